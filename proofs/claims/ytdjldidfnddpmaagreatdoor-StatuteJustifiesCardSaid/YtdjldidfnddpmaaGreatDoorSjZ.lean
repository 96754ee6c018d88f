/- StatuteJustifies: for every input the law returns true, where the package's two tables hold what the text lays; and its tied card. No condition. -/
import Derived.Test.YtdjldidfnddpmaaGreatDoorSjB
import Derived.Test.YtdjldidfnddpmaaGreatDoorSvB
import Derived.Test.YtdjldidfnddpmaaGreatDoorSjC
import Derived.Test.YtdjldidfnddpmaaGreatDoorJuK
import Derived.Test.YtdjldidfnddpmaaGreatDoorRows
import Derived.WalkKit
import Derived.ProofKit
import Derived.OpenShut
import Derived.Test.YtdjldidfnddpmaaGreatDoorJuG
import Derived.LaidLaws
import Derived.LaidMore
import Derived.LaidHandle
import Derived.Handed
import Derived.Lib.LaidTab
import Derived.Test.YtdjldidfnddpmaaGreatDoorTie
import Derived.Test.YtdjldidfnddpmaaGreatDoorCards
import Derived.SevenTiedAt
/- The law's example, and what the functions answer at it. Conditions: how the laws lie in memory. -/
namespace Go.Proofs.YtdjldidfnddpmaaGreatDoor
open Go.RowKit
def exC : CodeD := ⟨[⟨100, 200, 1000, [0], [2], 3⟩, ⟨300, 250, 1000, [1], [], 3⟩], [], [⟨7, 0, 0, 1000, 150, 1000⟩, ⟨7, 2, 500, 1000, 600, 1000⟩]⟩
def exR : CodeD := ⟨[⟨100, 200, 1000, [0], [2], 3⟩, ⟨300, 250, 1000, [1], [], 3⟩], [⟨0, 350, 300⟩], [⟨7, 0, 0, 1000, 150, 1000⟩, ⟨7, 2, 500, 1000, 600, 1000⟩]⟩
def first31 : List FindD := [⟨0, true, 0, -1⟩, ⟨2, false, -1, -1⟩, ⟨3, true, -1, 0⟩]
def second31 : List FindD := [⟨1, false, -1, -1⟩, ⟨2, true, 1, -1⟩, ⟨3, false, -1, -1⟩]
def last31 : List FindD := [⟨3, false, -1, -1⟩]
def decAns (c : CodeD) (q : QueryD) : Bool × List FindD × Int := (validC c && asksB q && answerB c q, if validC c && asksB q then decideP c q else [], errS c q)
theorem ans1 : decAns exC ⟨7, 3, 400, 400⟩ = (true, first31, 0) := by decide +kernel
theorem ans2 : decAns exC ⟨7, 3, 700, 650⟩ = (false, second31, 0) := by decide +kernel
theorem ans3 : (decAns exC ⟨7, 3, 700, 550⟩).1 = true ∧ (decAns exC ⟨7, 3, 700, 550⟩).2.2 = 0 := by decide +kernel
theorem ans4 : decAns exC ⟨7, 3, 199, 650⟩ = (false, last31, 0) := by decide +kernel
theorem ans5 : (decAns exC ⟨7, 3, 400, 120⟩).1 = false ∧ (decAns exC ⟨7, 3, 400, 120⟩).2.2 = 0 := by decide +kernel
theorem ans6 : (decAns exR ⟨7, 3, 400, 400⟩).1 = false ∧ (decAns exR ⟨7, 3, 400, 400⟩).2.2 = 0 := by decide +kernel
theorem use1 : usesFacts exC ⟨7, 3, 700, 650⟩ second31 = [1] ∧ usesClauses exC ⟨7, 3, 700, 650⟩ second31 = [0, 1] ∧ usesErr exC ⟨7, 3, 700, 650⟩ second31 = 0 := by decide +kernel
theorem app1 : appliesF exC ⟨7, 3, 400, 400⟩ = [0] ∧ appliesC exC ⟨7, 3, 400, 400⟩ = [0, 1] ∧ errS exC ⟨7, 3, 400, 400⟩ = 0 := by decide +kernel
theorem chk1 : checkB exC ⟨7, 3, 400, 400⟩ true first31 = true ∧ checkB exC ⟨7, 3, 400, 400⟩ false first31 = false ∧ checkB exC ⟨7, 3, 700, 650⟩ true first31 = false ∧ checkB exC ⟨7, 3, 700, 650⟩ false second31 = true := by decide +kernel
theorem val1 : validC exC = true ∧ validC ⟨[clause0], [], []⟩ = false ∧ asksB ⟨7, 3, 400, 400⟩ = true ∧ asksB ⟨0, 0, -1, 0⟩ = false := by decide +kernel
/-- Decide at laws and a query of which the answer is known -/
theorem decide_at {c : CodeD} {q : QueryD} {b : Bool} {l : List FindD} {n : Int} (h : decAns c q = (b, l, n)) (cv rv fv : Value) (w : World) (hc : CodeIn w.cell? cv rv fv c) : Calls Tryz.prog 8 #[codeV cv rv fv, queryV q] w (fun e w' => ∃ a m, e = .returned (.tuple #[.bool b, .slice a l.length m, .int .i64 n]) ∧ FindsIn (frm w.heap.size w') (.slice a l.length m) l ∧ Below w.heap.size w w') := by
  have h1 : (validC c && asksB q && answerB c q) = b := congrArg (·.1) h
  have h2 : (if validC c && asksB q then decideP c q else []) = l := congrArg (·.2.1) h
  have h3 : errS c q = n := congrArg (·.2.2) h
  refine (decideS_any c q cv rv fv w hc).mono ?_
  rintro e w' ⟨lv, rfl, hl, hb⟩
  rw [h1, h3]
  rw [h2] at hl
  obtain ⟨a, m, rfl, -⟩ := id hl
  exact ⟨a, m, rfl, hl, hb⟩
theorem decide_at2 {c : CodeD} {q : QueryD} {b : Bool} {n : Int} (h : (decAns c q).1 = b ∧ (decAns c q).2.2 = n) (cv rv fv : Value) (w : World) (hc : CodeIn w.cell? cv rv fv c) : Calls Tryz.prog 8 #[codeV cv rv fv, queryV q] w (fun e w' => ∃ a k m, e = .returned (.tuple #[.bool b, .slice a k m, .int .i64 n]) ∧ Below w.heap.size w w') := by
  have h1 : (validC c && asksB q && answerB c q) = b := h.1
  have h3 : errS c q = n := h.2
  refine (decideS_any c q cv rv fv w hc).mono ?_
  rintro e w' ⟨lv, rfl, hl, hb⟩
  rw [h1, h3]
  obtain ⟨a, m, rfl, -⟩ := id hl
  exact ⟨a, _, m, rfl, hb⟩
theorem clauses_blk {w : World} {b : Nat} {T : TypeId} {x y : ClauseD} {nv bv mv dv : Value} (h : Blk w b (clauseC x nv bv ++ clauseC y mv dv) T) (h1 : IntsIn w.cell? nv x.needs) (h2 : IntsIn w.cell? bv x.bars) (h3 : IntsIn w.cell? mv y.needs) (h4 : IntsIn w.cell? dv y.bars) : ClausesIn w.cell? (.slice (some ⟨b, 0, none⟩) 2 2) [x, y] :=
  ⟨some ⟨b, 0, none⟩, 2, rfl, by simp, by omega, fun i hi => by
    match i, hi with
    | 0, _ => exact ⟨b, 0, nv, bv, rfl, h.cell 0 rfl, h.cell 1 rfl, h.cell 2 rfl, h.cell 3 rfl, h.cell 4 rfl, h.cell 5 rfl, h1, h2⟩
    | 1, _ => exact ⟨b, 0, mv, dv, rfl, h.cell 6 rfl, h.cell 7 rfl, h.cell 8 rfl, h.cell 9 rfl, h.cell 10 rfl, h.cell 11 rfl, h3, h4⟩⟩
theorem rec_blk {α : Type} {f : α → List Value} {d : α} {k : Nat} (hk : ∀ x, (f x).length = k) {w : World} {b : Nat} {T : TypeId} {l : List α} (h : Blk w b (l.map f).flatten T) (hl : l.length ≤ 1000) : RecIn f d k w.cell? (.slice (some ⟨b, 0, none⟩) l.length l.length) l :=
  ⟨some ⟨b, 0, none⟩, l.length, rfl, Nat.le_refl _, by omega, fun i hi => ⟨b, 0, rfl, fun j u hu => by
    have hL : ∀ r ∈ l.map f, r.length = k := fun r hr => by obtain ⟨x, -, rfl⟩ := List.mem_map.1 hr; exact hk x
    have hj : j < k := by rw [← hk (l.getD i d)]; exact (List.getElem?_eq_some_iff.1 hu).1
    have h1 := flat_get hL i j hj
    have hi' : (l.map f).getD i [] = f (l.getD i d) := by
      rw [List.getD_eq_getElem?_getD, List.getElem?_map, List.getElem?_eq_getElem hi, List.getD_eq_getElem?_getD, List.getElem?_eq_getElem hi]; rfl
    rw [hi', hu] at h1
    rw [Nat.zero_add]
    exact h.cell (i * k + j) h1⟩⟩
theorem ints_blk {w : World} {b : Nat} {T : TypeId} {l : List Int} (h : Blk w b (l.map (Value.int .i64)) T) (hl : l.length ≤ 1000) : IntsIn w.cell? (.slice (some ⟨b, 0, none⟩) l.length l.length) l :=
  ⟨some ⟨b, 0, none⟩, l.length, rfl, Nat.le_refl _, by omega, fun k hk => ⟨b, 0, rfl, by
    rw [Nat.zero_add]
    refine h.cell k ?_
    rw [List.getElem?_map, List.getElem?_eq_getElem hk, List.getD_eq_getElem?_getD, List.getElem?_eq_getElem hk]; rfl⟩⟩
/-- the call returns laws -/
def CodeR (c : CodeD) (w : World) (e : Ending) (w' : World) : Prop := ∃ ca cn ra rn fa fn, e = .returned (codeV (.slice ca c.clauses.length cn) (.slice ra c.repeals.length rn) (.slice fa c.facts.length fn)) ∧ CodeIn w'.cell? (.slice ca c.clauses.length cn) (.slice ra c.repeals.length rn) (.slice fa c.facts.length fn) c ∧ Below w.heap.size w w'
set_option maxRecDepth 100000 in
set_option maxHeartbeats 1000000 in
theorem example31_any (w : World) : Calls Tryz.prog 12 #[] w (CodeR exC w) := by
  go_enter Tryz.func12, Tryz.ntmps12
  go_wp2_with fail
  generalize hX1 : World.alloc w _ = X1
  have zX1 : X1.heap.size = w.heap.size + 1 := by rw [← hX1]; simp
  have bX1 : Below w.heap.size w X1 := by rw [← hX1]; exact bal w _
  have bR_1 : Blk X1 (w.heap.size) [.slice (some ⟨w.heap.size + 1 + 1 + 1 + 1, 0, none⟩) 2 2, .slice none 0 0, .slice (some ⟨w.heap.size + 1 + 1 + 1 + 1 + 1, 0, none⟩) 2 2] 32 := by rw [← hX1]; exact Blk.newA w _ (by first | rfl | simp)
  generalize hX2 : World.alloc X1 _ = X2
  have zX2 : X2.heap.size = w.heap.size + 1 + 1 := by rw [← hX2]; simp [zX1]
  have bX2 : Below X1.heap.size X1 X2 := by rw [← hX2]; exact bal X1 _
  have i1_2 : Blk X2 (w.heap.size + 1) [.int .i64 0] 3 := by rw [← hX2, ← zX1]; exact Blk.newA X1 _ (by first | rfl | simp)
  have bR_2 := bR_1.later bX2
  generalize hX3 : World.alloc X2 _ = X3
  have zX3 : X3.heap.size = w.heap.size + 1 + 1 + 1 := by rw [← hX3]; simp [zX2]
  have bX3 : Below X2.heap.size X2 X3 := by rw [← hX3]; exact bal X2 _
  have i2_3 : Blk X3 (w.heap.size + 1 + 1) [.int .i64 2] 3 := by rw [← hX3, ← zX2]; exact Blk.newA X2 _ (by first | rfl | simp)
  have bR_3 := bR_2.later bX3
  have i1_3 := i1_2.later bX3
  generalize hX4 : World.alloc X3 _ = X4
  have zX4 : X4.heap.size = w.heap.size + 1 + 1 + 1 + 1 := by rw [← hX4]; simp [zX3]
  have bX4 : Below X3.heap.size X3 X4 := by rw [← hX4]; exact bal X3 _
  have i3_4 : Blk X4 (w.heap.size + 1 + 1 + 1) [.int .i64 1] 3 := by rw [← hX4, ← zX3]; exact Blk.newA X3 _ (by first | rfl | simp)
  have bR_4 := bR_3.later bX4
  have i1_4 := i1_3.later bX4
  have i2_4 := i2_3.later bX4
  generalize hX5 : World.alloc X4 _ = X5
  have zX5 : X5.heap.size = w.heap.size + 1 + 1 + 1 + 1 + 1 := by rw [← hX5]; simp [zX4]
  have bX5 : Below X4.heap.size X4 X5 := by rw [← hX5]; exact bal X4 _
  have bC_5 : Blk X5 (w.heap.size + 1 + 1 + 1 + 1) [.int .i64 100, .int .i64 200, .int .i64 1000, .slice (some ⟨w.heap.size + 1, 0, none⟩) 1 1, .slice (some ⟨w.heap.size + 1 + 1, 0, none⟩) 1 1, .int .i64 3, .int .i64 300, .int .i64 250, .int .i64 1000, .slice (some ⟨w.heap.size + 1 + 1 + 1, 0, none⟩) 1 1, .slice none 0 0, .int .i64 3] 38 := by rw [← hX5, ← zX4]; exact Blk.newA X4 _ (by first | rfl | simp)
  have bR_5 := bR_4.later bX5
  have i1_5 := i1_4.later bX5
  have i2_5 := i2_4.later bX5
  have i3_5 := i3_4.later bX5
  generalize hX6 : World.alloc X5 _ = X6
  have zX6 : X6.heap.size = w.heap.size + 1 + 1 + 1 + 1 + 1 + 1 := by rw [← hX6]; simp [zX5]
  have bX6 : Below X5.heap.size X5 X6 := by rw [← hX6]; exact bal X5 _
  have bF : Blk X6 (w.heap.size + 1 + 1 + 1 + 1 + 1) [.int .i64 7, .int .i64 0, .int .i64 0, .int .i64 1000, .int .i64 150, .int .i64 1000, .int .i64 7, .int .i64 2, .int .i64 500, .int .i64 1000, .int .i64 600, .int .i64 1000] 49 := by rw [← hX6, ← zX5]; exact Blk.newA X5 _ (by first | rfl | simp)
  have bR := bR_5.later bX6
  have i1 := i1_5.later bX6
  have i2 := i2_5.later bX6
  have i3 := i3_5.later bX6
  have bC := bC_5.later bX6
  have Xb := below2 (below2 (below2 (below2 (below2 (bX1) bX2) bX3) bX4) bX5) bX6
  have Xz := zX6
  clear hX1 zX1 bX1 hX2 zX2 bX2 hX3 zX3 bX3 hX4 zX4 bX4 hX5 zX5 bX5 hX6 zX6 bX6 bR_1 bR_2 bR_3 bR_4 bR_5 i1_2 i1_3 i1_4 i1_5 i2_3 i2_4 i2_5 i3_4 i3_5 bC_5
  have x0 := bR.cell 0 rfl
  have x1 := bR.cell 1 rfl
  have x2 := bR.cell 2 rfl
  have h1 := clauses_blk (x := ⟨100, 200, 1000, [0], [2], 3⟩) (y := ⟨300, 250, 1000, [1], [], 3⟩) bC (ints_blk (l := [0]) i1 (by decide)) (ints_blk (l := [2]) i2 (by decide)) (ints_blk (l := [1]) i3 (by decide)) (IntsIn.nil _)
  have h2 := rec_blk (f := factC) (d := fact0) (k := 6) (fun _ => rfl) (l := exC.facts) bF (by decide)
  refine bodyPost_ret (v := .agg #[.slice (some ⟨w.heap.size + 1 + 1 + 1 + 1, 0, none⟩) 2 2, .slice none 0 0, .slice (some ⟨w.heap.size + 1 + 1 + 1 + 1 + 1, 0, none⟩) 2 2]) (by simp [results, Tryz.results12, go_sem, x0, x1, x2]) rfl ?_
  exact ⟨_, _, _, _, _, _, rfl, ⟨h1, RecIn.nil _, h2⟩, Xb⟩
end Go.Proofs.YtdjldidfnddpmaaGreatDoor
/- The walk of the law's sane: it returns true. No condition. -/
namespace Go.Proofs.YtdjldidfnddpmaaGreatDoor
open Go.RowKit
set_option maxRecDepth 100000 in
set_option maxHeartbeats 4000000 in
theorem sane31_any (w : World) : Calls Tryz.prog 4 #[] w (Ret (.bool true) w) := by
  have lC : exC.clauses.length = 2 := rfl
  have lR : exC.repeals.length = 0 := rfl
  have lF : exC.facts.length = 2 := rfl
  have LC := hide lC
  have LR := hide lR
  have LF := hide lF
  clear lC lR lF
  go_enter Tryz.func4, Tryz.ntmps4
  go_wp2_with fail
  refine (example31_any _).mono ?_
  rintro e w1 ⟨ca, cn, ra, rn, fa, fn, rfl, hC, hw⟩
  rw [LC.out, LR.out, LF.out] at hC ⊢
  go_wp2_with fail
  generalize hX1 : World.alloc w1 _ = X1
  have zX1 : X1.heap.size = w1.heap.size + 1 := by rw [← hX1]; simp
  have bX1 : Below w1.heap.size w1 X1 := by rw [← hX1]; exact bal w1 _
  have bE_1 : Blk X1 (w1.heap.size) [.slice ca 2 cn, .slice ra 0 rn, .slice fa 2 fn] 32 := by rw [← hX1]; exact Blk.newA w1 _ (by first | rfl | simp)
  generalize hX2 : World.alloc X1 _ = X2
  have zX2 : X2.heap.size = w1.heap.size + 1 + 1 := by rw [← hX2]; simp [zX1]
  have bX2 : Below X1.heap.size X1 X2 := by rw [← hX2]; exact bal X1 _
  have bQ_2 : Blk X2 (w1.heap.size + 1) [.int .i64 7, .int .i64 3, .int .i64 400, .int .i64 400] 40 := by rw [← hX2, ← zX1]; exact Blk.newA X1 _ (by first | rfl | simp)
  have bE_2 := bE_1.later bX2
  generalize hX3 : World.alloc X2 _ = X3
  have zX3 : X3.heap.size = w1.heap.size + 1 + 1 + 1 := by rw [← hX3]; simp [zX2]
  have bX3 : Below X2.heap.size X2 X3 := by rw [← hX3]; exact bal X2 _
  have bL : Blk X3 (w1.heap.size + 1 + 1) [.int .i64 7, .int .i64 3, .int .i64 700, .int .i64 650] 40 := by rw [← hX3, ← zX2]; exact Blk.newA X2 _ (by first | rfl | simp)
  have bE := bE_2.later bX3
  have bQ := bQ_2.later bX3
  have Xb := below2 (below2 (bX1) bX2) bX3
  have Xz := zX3
  clear hX1 zX1 bX1 hX2 zX2 bX2 hX3 zX3 bX3 bE_1 bE_2 bQ_2
  replace hC := hC.below Xb
  replace hw := below2 hw Xb
  have e0 := bE.cell 0 rfl
  have e1 := bE.cell 1 rfl
  have e2 := bE.cell 2 rfl
  have q0 := bQ.cell 0 rfl
  have q1 := bQ.cell 1 rfl
  have q2 := bQ.cell 2 rfl
  have q3 := bQ.cell 3 rfl
  have l0 := bL.cell 0 rfl
  have l1 := bL.cell 1 rfl
  have l2 := bL.cell 2 rfl
  have l3 := bL.cell 3 rfl
  clear Xb Xz
  refine (decide_at ans1 _ _ _ _ hC).mono ?_
  rintro e w2 ⟨p1, m1, rfl, hp1, hb⟩
  replace hp1 := hp1.at
  replace bE := bE.later hb
  replace bQ := bQ.later hb
  replace bL := bL.later hb
  replace hC := hC.below hb
  replace hw := below2 hw hb
  replace e0 := bE.cell 0 rfl
  replace e1 := bE.cell 1 rfl
  replace e2 := bE.cell 2 rfl
  replace q0 := bQ.cell 0 rfl
  replace q1 := bQ.cell 1 rfl
  replace q2 := bQ.cell 2 rfl
  replace q3 := bQ.cell 3 rfl
  replace l0 := bL.cell 0 rfl
  replace l1 := bL.cell 1 rfl
  replace l2 := bL.cell 2 rfl
  replace l3 := bL.cell 3 rfl
  clear hb
  go_wp2_with fail
  refine (decide_at ans2 _ _ _ _ hC).mono ?_
  rintro e w3 ⟨p2, m2, rfl, hp2, hb⟩
  replace hp2 := hp2.at
  replace hp1 := hp1.below hb
  replace bE := bE.later hb
  replace bQ := bQ.later hb
  replace bL := bL.later hb
  replace hC := hC.below hb
  replace hw := below2 hw hb
  replace e0 := bE.cell 0 rfl
  replace e1 := bE.cell 1 rfl
  replace e2 := bE.cell 2 rfl
  replace q0 := bQ.cell 0 rfl
  replace q1 := bQ.cell 1 rfl
  replace q2 := bQ.cell 2 rfl
  replace q3 := bQ.cell 3 rfl
  replace l0 := bL.cell 0 rfl
  replace l1 := bL.cell 1 rfl
  replace l2 := bL.cell 2 rfl
  replace l3 := bL.cell 3 rfl
  clear hb
  go_wp2_with fail
  refine (decide_at2 ans3 _ _ _ _ hC).mono ?_
  rintro e w4 ⟨p3, k3, m3, rfl, hb⟩
  replace hp1 := hp1.below hb
  replace hp2 := hp2.below hb
  replace bE := bE.later hb
  replace bQ := bQ.later hb
  replace bL := bL.later hb
  replace hC := hC.below hb
  replace hw := below2 hw hb
  replace e0 := bE.cell 0 rfl
  replace e1 := bE.cell 1 rfl
  replace e2 := bE.cell 2 rfl
  replace q0 := bQ.cell 0 rfl
  replace q1 := bQ.cell 1 rfl
  replace q2 := bQ.cell 2 rfl
  replace q3 := bQ.cell 3 rfl
  replace l0 := bL.cell 0 rfl
  replace l1 := bL.cell 1 rfl
  replace l2 := bL.cell 2 rfl
  replace l3 := bL.cell 3 rfl
  clear hb
  go_wp2_with fail
  refine (decide_at ans4 _ _ _ _ hC).mono ?_
  rintro e w5 ⟨p4, m4, rfl, hp4, hb⟩
  replace hp4 := hp4.at
  replace hp1 := hp1.below hb
  replace hp2 := hp2.below hb
  replace bE := bE.later hb
  replace bQ := bQ.later hb
  replace bL := bL.later hb
  replace hC := hC.below hb
  replace hw := below2 hw hb
  replace e0 := bE.cell 0 rfl
  replace e1 := bE.cell 1 rfl
  replace e2 := bE.cell 2 rfl
  replace q0 := bQ.cell 0 rfl
  replace q1 := bQ.cell 1 rfl
  replace q2 := bQ.cell 2 rfl
  replace q3 := bQ.cell 3 rfl
  replace l0 := bL.cell 0 rfl
  replace l1 := bL.cell 1 rfl
  replace l2 := bL.cell 2 rfl
  replace l3 := bL.cell 3 rfl
  clear hb
  go_wp2_with fail
  refine (decide_at2 ans5 _ _ _ _ hC).mono ?_
  rintro e w6 ⟨p5, k5, m5, rfl, hb⟩
  replace hp1 := hp1.below hb
  replace hp2 := hp2.below hb
  replace hp4 := hp4.below hb
  replace bE := bE.later hb
  replace bQ := bQ.later hb
  replace bL := bL.later hb
  replace hC := hC.below hb
  replace hw := below2 hw hb
  replace e0 := bE.cell 0 rfl
  replace e1 := bE.cell 1 rfl
  replace e2 := bE.cell 2 rfl
  replace q0 := bQ.cell 0 rfl
  replace q1 := bQ.cell 1 rfl
  replace q2 := bQ.cell 2 rfl
  replace q3 := bQ.cell 3 rfl
  replace l0 := bL.cell 0 rfl
  replace l1 := bL.cell 1 rfl
  replace l2 := bL.cell 2 rfl
  replace l3 := bL.cell 3 rfl
  clear hb
  have qa := fun o1 o2 => keep (below2 (bal w6 o1) (bal _ o2)) q0
  have qb := fun o1 o2 => keep (below2 (bal w6 o1) (bal _ o2)) q1
  have qc := fun o1 o2 => keep (below2 (bal w6 o1) (bal _ o2)) q2
  have qd := fun o1 o2 => keep (below2 (bal w6 o1) (bal _ o2)) q3
  go_wp2_with fail
  generalize hY1 : World.alloc w6 _ = Y1
  have zY1 : Y1.heap.size = w6.heap.size + 1 := by rw [← hY1]; simp
  have bY1 : Below w6.heap.size w6 Y1 := by rw [← hY1]; exact bal w6 _
  have bP_1 : Blk Y1 (w6.heap.size) [.slice ca 2 cn, .slice (some ⟨w6.heap.size + 1, 0, none⟩) 1 1, .slice fa 2 fn] 32 := by rw [← hY1]; exact Blk.newA w6 _ (by first | rfl | simp)
  generalize hY2 : World.alloc Y1 _ = Y2
  have zY2 : Y2.heap.size = w6.heap.size + 1 + 1 := by rw [← hY2]; simp [zY1]
  have bY2 : Below Y1.heap.size Y1 Y2 := by rw [← hY2]; exact bal Y1 _
  have bZ : Blk Y2 (w6.heap.size + 1) [.int .i64 0, .int .i64 350, .int .i64 300] 63 := by rw [← hY2, ← zY1]; exact Blk.newA Y1 _ (by first | rfl | simp)
  have bP := bP_1.later bY2
  have Yb := below2 (bY1) bY2
  have Yz := zY2
  clear hY1 zY1 bY1 hY2 zY2 bY2 bP_1
  clear qa qb qc qd
  replace hp1 := hp1.below Yb
  replace hp2 := hp2.below Yb
  replace hp4 := hp4.below Yb
  replace bE := bE.later Yb
  replace bQ := bQ.later Yb
  replace bL := bL.later Yb
  replace hC := hC.below Yb
  replace hw := below2 hw Yb
  replace e0 := bE.cell 0 rfl
  replace e1 := bE.cell 1 rfl
  replace e2 := bE.cell 2 rfl
  replace q0 := bQ.cell 0 rfl
  replace q1 := bQ.cell 1 rfl
  replace q2 := bQ.cell 2 rfl
  replace q3 := bQ.cell 3 rfl
  replace l0 := bL.cell 0 rfl
  replace l1 := bL.cell 1 rfl
  replace l2 := bL.cell 2 rfl
  replace l3 := bL.cell 3 rfl
  have hR : CodeIn Y2.cell? (.slice ca 2 cn) (.slice (some ⟨w6.heap.size + 1, 0, none⟩) 1 1) (.slice fa 2 fn) exR := ⟨hC.cl, rec_blk (f := repealC) (d := repeal0) (k := 3) (fun _ => rfl) (l := [⟨0, 350, 300⟩]) bZ (by decide), hC.fa⟩
  clear Yb Yz bZ
  refine (decide_at2 ans6 _ _ _ _ hR).mono ?_
  rintro e w7 ⟨p6, k6, m6, rfl, hb⟩
  replace hp1 := hp1.below hb
  replace hp2 := hp2.below hb
  replace hp4 := hp4.below hb
  replace bE := bE.later hb
  replace bQ := bQ.later hb
  replace bL := bL.later hb
  replace hC := hC.below hb
  replace hw := below2 hw hb
  replace e0 := bE.cell 0 rfl
  replace e1 := bE.cell 1 rfl
  replace e2 := bE.cell 2 rfl
  replace q0 := bQ.cell 0 rfl
  replace q1 := bQ.cell 1 rfl
  replace q2 := bQ.cell 2 rfl
  replace q3 := bQ.cell 3 rfl
  replace l0 := bL.cell 0 rfl
  replace l1 := bL.cell 1 rfl
  replace l2 := bL.cell 2 rfl
  replace l3 := bL.cell 3 rfl
  clear hb hR bP
  go_wp2_with fail
  refine (usesS_any exC ⟨7, 3, 700, 650⟩ _ _ _ _ second31 _ hC hp2).mono ?_
  rw [use1.1, use1.2.1, use1.2.2]
  rintro e w8 ⟨u1, u2, rfl, hu1, hu2, hb⟩
  replace hu1 : IntsAt w8 u1 [1] := hu1.at
  replace hu2 : IntsAt w8 u2 [0, 1] := hu2.at
  replace hp1 := hp1.below hb
  replace hp2 := hp2.below hb
  replace hp4 := hp4.below hb
  replace bE := bE.later hb
  replace bQ := bQ.later hb
  replace bL := bL.later hb
  replace hC := hC.below hb
  replace hw := below2 hw hb
  replace e0 := bE.cell 0 rfl
  replace e1 := bE.cell 1 rfl
  replace e2 := bE.cell 2 rfl
  replace q0 := bQ.cell 0 rfl
  replace q1 := bQ.cell 1 rfl
  replace q2 := bQ.cell 2 rfl
  replace q3 := bQ.cell 3 rfl
  replace l0 := bL.cell 0 rfl
  replace l1 := bL.cell 1 rfl
  replace l2 := bL.cell 2 rfl
  replace l3 := bL.cell 3 rfl
  clear hb
  obtain ⟨u1a, u1n, rfl, -⟩ := id hu1
  obtain ⟨u2a, u2n, rfl, -⟩ := id hu2
  go_wp2_with fail
  refine (appliesS_any exC ⟨7, 3, 400, 400⟩ _ _ _ _ hC).mono ?_
  rw [app1.1, app1.2.1, app1.2.2]
  rintro e w9 ⟨v1, v2, rfl, hv1, hv2, hb⟩
  replace hv1 : IntsAt w9 v1 [0] := hv1.at
  replace hv2 : IntsAt w9 v2 [0, 1] := hv2.at
  replace hu1 := hu1.below hb
  replace hu2 := hu2.below hb
  replace hp1 := hp1.below hb
  replace hp2 := hp2.below hb
  replace hp4 := hp4.below hb
  replace bE := bE.later hb
  replace bQ := bQ.later hb
  replace bL := bL.later hb
  replace hC := hC.below hb
  replace hw := below2 hw hb
  replace e0 := bE.cell 0 rfl
  replace e1 := bE.cell 1 rfl
  replace e2 := bE.cell 2 rfl
  replace q0 := bQ.cell 0 rfl
  replace q1 := bQ.cell 1 rfl
  replace q2 := bQ.cell 2 rfl
  replace q3 := bQ.cell 3 rfl
  replace l0 := bL.cell 0 rfl
  replace l1 := bL.cell 1 rfl
  replace l2 := bL.cell 2 rfl
  replace l3 := bL.cell 3 rfl
  clear hb
  obtain ⟨v1a, v1n, rfl, -⟩ := id hv1
  obtain ⟨v2a, v2n, rfl, -⟩ := id hv2
  go_wp2_with fail
  generalize hZ1 : World.alloc w9 _ = Z1
  have zZ1 : Z1.heap.size = w9.heap.size + 1 := by rw [← hZ1]; simp
  have bZ1 : Below w9.heap.size w9 Z1 := by rw [← hZ1]; exact bal w9 _
  have bF_1 : Blk Z1 (w9.heap.size) [.int .i64 0, .bool true, .int .i64 0, .int .i64 (-1), .int .i64 2, .bool false, .int .i64 (-1), .int .i64 (-1), .int .i64 3, .bool true, .int .i64 (-1), .int .i64 0] 66 := by rw [← hZ1]; exact Blk.newA w9 _ (by first | rfl | simp)
  generalize hZ2 : World.alloc Z1 _ = Z2
  have zZ2 : Z2.heap.size = w9.heap.size + 1 + 1 := by rw [← hZ2]; simp [zZ1]
  have bZ2 : Below Z1.heap.size Z1 Z2 := by rw [← hZ2]; exact bal Z1 _
  have bS : Blk Z2 (w9.heap.size + 1) [.int .i64 1, .bool false, .int .i64 (-1), .int .i64 (-1), .int .i64 2, .bool true, .int .i64 1, .int .i64 (-1), .int .i64 3, .bool false, .int .i64 (-1), .int .i64 (-1)] 66 := by rw [← hZ2, ← zZ1]; exact Blk.newA Z1 _ (by first | rfl | simp)
  have bF := bF_1.later bZ2
  have Zb := below2 (bZ1) bZ2
  have Zz := zZ2
  clear hZ1 zZ1 bZ1 hZ2 zZ2 bZ2 bF_1
  replace hu1 := hu1.below Zb
  replace hu2 := hu2.below Zb
  replace hv1 := hv1.below Zb
  replace hv2 := hv2.below Zb
  replace hp1 := hp1.below Zb
  replace hp2 := hp2.below Zb
  replace hp4 := hp4.below Zb
  have hf : FindsIn Z2.cell? (.slice (some ⟨w9.heap.size, 0, none⟩) 3 3) first31 := rec_blk (f := findC) (d := find0) (k := 4) (fun _ => rfl) (l := first31) bF (by decide)
  have hs : FindsIn Z2.cell? (.slice (some ⟨w9.heap.size + 1, 0, none⟩) 3 3) second31 := rec_blk (f := findC) (d := find0) (k := 4) (fun _ => rfl) (l := second31) bS (by decide)
  replace bE := bE.later Zb
  replace bQ := bQ.later Zb
  replace bL := bL.later Zb
  replace hC := hC.below Zb
  replace hw := below2 hw Zb
  replace e0 := bE.cell 0 rfl
  replace e1 := bE.cell 1 rfl
  replace e2 := bE.cell 2 rfl
  replace q0 := bQ.cell 0 rfl
  replace q1 := bQ.cell 1 rfl
  replace q2 := bQ.cell 2 rfl
  replace q3 := bQ.cell 3 rfl
  replace l0 := bL.cell 0 rfl
  replace l1 := bL.cell 1 rfl
  replace l2 := bL.cell 2 rfl
  replace l3 := bL.cell 3 rfl
  clear Zb Zz bF bS
  refine (same_any first31 _ _ _ hp1 hf).mono ?_
  rintro e wa ⟨rfl, hb⟩
  replace hu1 := hu1.below hb
  replace hu2 := hu2.below hb
  replace hv1 := hv1.below hb
  replace hv2 := hv2.below hb
  replace hp1 := hp1.below hb
  replace hp2 := hp2.below hb
  replace hp4 := hp4.below hb
  replace hf := hf.below hb
  replace hs := hs.below hb
  replace bE := bE.later hb
  replace bQ := bQ.later hb
  replace bL := bL.later hb
  replace hC := hC.below hb
  replace hw := below2 hw hb
  replace e0 := bE.cell 0 rfl
  replace e1 := bE.cell 1 rfl
  replace e2 := bE.cell 2 rfl
  replace q0 := bQ.cell 0 rfl
  replace q1 := bQ.cell 1 rfl
  replace q2 := bQ.cell 2 rfl
  replace q3 := bQ.cell 3 rfl
  replace l0 := bL.cell 0 rfl
  replace l1 := bL.cell 1 rfl
  replace l2 := bL.cell 2 rfl
  replace l3 := bL.cell 3 rfl
  clear hb
  go_wp2_with fail
  refine (same_any second31 _ _ _ hp2 hs).mono ?_
  rintro e wb ⟨rfl, hb⟩
  replace hu1 := hu1.below hb
  replace hu2 := hu2.below hb
  replace hv1 := hv1.below hb
  replace hv2 := hv2.below hb
  replace hp1 := hp1.below hb
  replace hp2 := hp2.below hb
  replace hp4 := hp4.below hb
  replace hf := hf.below hb
  replace hs := hs.below hb
  replace bE := bE.later hb
  replace bQ := bQ.later hb
  replace bL := bL.later hb
  replace hC := hC.below hb
  replace hw := below2 hw hb
  replace e0 := bE.cell 0 rfl
  replace e1 := bE.cell 1 rfl
  replace e2 := bE.cell 2 rfl
  replace q0 := bQ.cell 0 rfl
  replace q1 := bQ.cell 1 rfl
  replace q2 := bQ.cell 2 rfl
  replace q3 := bQ.cell 3 rfl
  replace l0 := bL.cell 0 rfl
  replace l1 := bL.cell 1 rfl
  replace l2 := bL.cell 2 rfl
  replace l3 := bL.cell 3 rfl
  clear hb
  go_wp2_with fail
  generalize hV1 : World.alloc wb _ = V1
  have zV1 : V1.heap.size = wb.heap.size + 1 := by rw [← hV1]; simp
  have bV1 : Below wb.heap.size wb V1 := by rw [← hV1]; exact bal wb _
  have bT : Blk V1 (wb.heap.size) [.int .i64 3, .bool false, .int .i64 (-1), .int .i64 (-1)] 66 := by rw [← hV1]; exact Blk.newA wb _ (by first | rfl | simp)
  have Vb := bV1
  have Vz := zV1
  clear hV1 zV1 bV1
  have ht : FindsIn V1.cell? (.slice (some ⟨wb.heap.size, 0, none⟩) 1 1) last31 := rec_blk (f := findC) (d := find0) (k := 4) (fun _ => rfl) (l := last31) bT (by decide)
  replace hu1 := hu1.below Vb
  replace hu2 := hu2.below Vb
  replace hv1 := hv1.below Vb
  replace hv2 := hv2.below Vb
  replace hp1 := hp1.below Vb
  replace hp2 := hp2.below Vb
  replace hp4 := hp4.below Vb
  replace hf := hf.below Vb
  replace hs := hs.below Vb
  replace bE := bE.later Vb
  replace bQ := bQ.later Vb
  replace bL := bL.later Vb
  replace hC := hC.below Vb
  replace hw := below2 hw Vb
  replace e0 := bE.cell 0 rfl
  replace e1 := bE.cell 1 rfl
  replace e2 := bE.cell 2 rfl
  replace q0 := bQ.cell 0 rfl
  replace q1 := bQ.cell 1 rfl
  replace q2 := bQ.cell 2 rfl
  replace q3 := bQ.cell 3 rfl
  replace l0 := bL.cell 0 rfl
  replace l1 := bL.cell 1 rfl
  replace l2 := bL.cell 2 rfl
  replace l3 := bL.cell 3 rfl
  clear Vb
  clear Vz bT
  refine (same_any last31 _ _ _ hp4 ht).mono ?_
  rintro e wc ⟨rfl, hb⟩
  clear ht
  replace hu1 := hu1.below hb
  replace hu2 := hu2.below hb
  replace hv1 := hv1.below hb
  replace hv2 := hv2.below hb
  replace hp1 := hp1.below hb
  replace hp2 := hp2.below hb
  replace hp4 := hp4.below hb
  replace hf := hf.below hb
  replace hs := hs.below hb
  replace bE := bE.later hb
  replace bQ := bQ.later hb
  replace bL := bL.later hb
  replace hC := hC.below hb
  replace hw := below2 hw hb
  replace e0 := bE.cell 0 rfl
  replace e1 := bE.cell 1 rfl
  replace e2 := bE.cell 2 rfl
  replace q0 := bQ.cell 0 rfl
  replace q1 := bQ.cell 1 rfl
  replace q2 := bQ.cell 2 rfl
  replace q3 := bQ.cell 3 rfl
  replace l0 := bL.cell 0 rfl
  replace l1 := bL.cell 1 rfl
  replace l2 := bL.cell 2 rfl
  replace l3 := bL.cell 3 rfl
  clear hb
  go_wp2_with fail
  refine (checkS_any exC ⟨7, 3, 400, 400⟩ _ _ _ _ true first31 _ hC hf).mono ?_
  rw [chk1.1]
  rintro e wd ⟨rfl, hb⟩
  replace hu1 := hu1.below hb
  replace hu2 := hu2.below hb
  replace hv1 := hv1.below hb
  replace hv2 := hv2.below hb
  replace hp1 := hp1.below hb
  replace hp2 := hp2.below hb
  replace hp4 := hp4.below hb
  replace hf := hf.below hb
  replace hs := hs.below hb
  replace bE := bE.later hb
  replace bQ := bQ.later hb
  replace bL := bL.later hb
  replace hC := hC.below hb
  replace hw := below2 hw hb
  replace e0 := bE.cell 0 rfl
  replace e1 := bE.cell 1 rfl
  replace e2 := bE.cell 2 rfl
  replace q0 := bQ.cell 0 rfl
  replace q1 := bQ.cell 1 rfl
  replace q2 := bQ.cell 2 rfl
  replace q3 := bQ.cell 3 rfl
  replace l0 := bL.cell 0 rfl
  replace l1 := bL.cell 1 rfl
  replace l2 := bL.cell 2 rfl
  replace l3 := bL.cell 3 rfl
  clear hb
  go_wp2_with fail
  refine (checkS_any exC ⟨7, 3, 400, 400⟩ _ _ _ _ false first31 _ hC hf).mono ?_
  rw [chk1.2.1]
  rintro e we ⟨rfl, hb⟩
  replace hu1 := hu1.below hb
  replace hu2 := hu2.below hb
  replace hv1 := hv1.below hb
  replace hv2 := hv2.below hb
  replace hp1 := hp1.below hb
  replace hp2 := hp2.below hb
  replace hp4 := hp4.below hb
  replace hf := hf.below hb
  replace hs := hs.below hb
  replace bE := bE.later hb
  replace bQ := bQ.later hb
  replace bL := bL.later hb
  replace hC := hC.below hb
  replace hw := below2 hw hb
  replace e0 := bE.cell 0 rfl
  replace e1 := bE.cell 1 rfl
  replace e2 := bE.cell 2 rfl
  replace q0 := bQ.cell 0 rfl
  replace q1 := bQ.cell 1 rfl
  replace q2 := bQ.cell 2 rfl
  replace q3 := bQ.cell 3 rfl
  replace l0 := bL.cell 0 rfl
  replace l1 := bL.cell 1 rfl
  replace l2 := bL.cell 2 rfl
  replace l3 := bL.cell 3 rfl
  clear hb
  go_wp2_with fail
  refine (checkS_any exC ⟨7, 3, 700, 650⟩ _ _ _ _ true first31 _ hC hf).mono ?_
  rw [chk1.2.2.1]
  rintro e wf ⟨rfl, hb⟩
  replace hu1 := hu1.below hb
  replace hu2 := hu2.below hb
  replace hv1 := hv1.below hb
  replace hv2 := hv2.below hb
  replace hp1 := hp1.below hb
  replace hp2 := hp2.below hb
  replace hp4 := hp4.below hb
  replace hf := hf.below hb
  replace hs := hs.below hb
  replace bE := bE.later hb
  replace bQ := bQ.later hb
  replace bL := bL.later hb
  replace hC := hC.below hb
  replace hw := below2 hw hb
  replace e0 := bE.cell 0 rfl
  replace e1 := bE.cell 1 rfl
  replace e2 := bE.cell 2 rfl
  replace q0 := bQ.cell 0 rfl
  replace q1 := bQ.cell 1 rfl
  replace q2 := bQ.cell 2 rfl
  replace q3 := bQ.cell 3 rfl
  replace l0 := bL.cell 0 rfl
  replace l1 := bL.cell 1 rfl
  replace l2 := bL.cell 2 rfl
  replace l3 := bL.cell 3 rfl
  clear hb
  go_wp2_with fail
  refine (checkS_any exC ⟨7, 3, 700, 650⟩ _ _ _ _ false second31 _ hC hs).mono ?_
  rw [chk1.2.2.2]
  rintro e wg ⟨rfl, hb⟩
  replace hu1 := hu1.below hb
  replace hu2 := hu2.below hb
  replace hv1 := hv1.below hb
  replace hv2 := hv2.below hb
  replace hp1 := hp1.below hb
  replace hp2 := hp2.below hb
  replace hp4 := hp4.below hb
  replace hf := hf.below hb
  replace hs := hs.below hb
  replace bE := bE.later hb
  replace bQ := bQ.later hb
  replace bL := bL.later hb
  replace hC := hC.below hb
  replace hw := below2 hw hb
  replace e0 := bE.cell 0 rfl
  replace e1 := bE.cell 1 rfl
  replace e2 := bE.cell 2 rfl
  replace q0 := bQ.cell 0 rfl
  replace q1 := bQ.cell 1 rfl
  replace q2 := bQ.cell 2 rfl
  replace q3 := bQ.cell 3 rfl
  replace l0 := bL.cell 0 rfl
  replace l1 := bL.cell 1 rfl
  replace l2 := bL.cell 2 rfl
  replace l3 := bL.cell 3 rfl
  clear hb
  go_wp2_with fail
  generalize hV1 : World.alloc wg _ = V1
  have zV1 : V1.heap.size = wg.heap.size + 1 := by rw [← hV1]; simp
  have bV1 : Below wg.heap.size wg V1 := by rw [← hV1]; exact bal wg _
  have bT : Blk V1 (wg.heap.size) [.int .i64 1] 3 := by rw [← hV1]; exact Blk.newA wg _ (by first | rfl | simp)
  have Vb := bV1
  have Vz := zV1
  clear hV1 zV1 bV1
  have ht : IntsAt V1 (.slice (some ⟨wg.heap.size, 0, none⟩) 1 1) [1] := ints_blk (l := [1]) bT (by decide)
  replace hu1 := hu1.below Vb
  replace hu2 := hu2.below Vb
  replace hv1 := hv1.below Vb
  replace hv2 := hv2.below Vb
  replace hp1 := hp1.below Vb
  replace hp2 := hp2.below Vb
  replace hp4 := hp4.below Vb
  replace hf := hf.below Vb
  replace hs := hs.below Vb
  replace bE := bE.later Vb
  replace bQ := bQ.later Vb
  replace bL := bL.later Vb
  replace hC := hC.below Vb
  replace hw := below2 hw Vb
  replace e0 := bE.cell 0 rfl
  replace e1 := bE.cell 1 rfl
  replace e2 := bE.cell 2 rfl
  replace q0 := bQ.cell 0 rfl
  replace q1 := bQ.cell 1 rfl
  replace q2 := bQ.cell 2 rfl
  replace q3 := bQ.cell 3 rfl
  replace l0 := bL.cell 0 rfl
  replace l1 := bL.cell 1 rfl
  replace l2 := bL.cell 2 rfl
  replace l3 := bL.cell 3 rfl
  clear Vb
  clear Vz bT
  refine (ints_any [1] [1] _ _ _ hu1 ht).mono ?_
  rw [show intsB [1] [1] = true by decide]
  rintro e wh ⟨rfl, hb⟩
  clear ht
  replace hu1 := hu1.below hb
  replace hu2 := hu2.below hb
  replace hv1 := hv1.below hb
  replace hv2 := hv2.below hb
  replace hp1 := hp1.below hb
  replace hp2 := hp2.below hb
  replace hp4 := hp4.below hb
  replace hf := hf.below hb
  replace hs := hs.below hb
  replace bE := bE.later hb
  replace bQ := bQ.later hb
  replace bL := bL.later hb
  replace hC := hC.below hb
  replace hw := below2 hw hb
  replace e0 := bE.cell 0 rfl
  replace e1 := bE.cell 1 rfl
  replace e2 := bE.cell 2 rfl
  replace q0 := bQ.cell 0 rfl
  replace q1 := bQ.cell 1 rfl
  replace q2 := bQ.cell 2 rfl
  replace q3 := bQ.cell 3 rfl
  replace l0 := bL.cell 0 rfl
  replace l1 := bL.cell 1 rfl
  replace l2 := bL.cell 2 rfl
  replace l3 := bL.cell 3 rfl
  clear hb
  go_wp2_with fail
  generalize hV1 : World.alloc wh _ = V1
  have zV1 : V1.heap.size = wh.heap.size + 1 := by rw [← hV1]; simp
  have bV1 : Below wh.heap.size wh V1 := by rw [← hV1]; exact bal wh _
  have bT : Blk V1 (wh.heap.size) [.int .i64 0, .int .i64 1] 3 := by rw [← hV1]; exact Blk.newA wh _ (by first | rfl | simp)
  have Vb := bV1
  have Vz := zV1
  clear hV1 zV1 bV1
  have ht : IntsAt V1 (.slice (some ⟨wh.heap.size, 0, none⟩) 2 2) [0, 1] := ints_blk (l := [0, 1]) bT (by decide)
  replace hu1 := hu1.below Vb
  replace hu2 := hu2.below Vb
  replace hv1 := hv1.below Vb
  replace hv2 := hv2.below Vb
  replace hp1 := hp1.below Vb
  replace hp2 := hp2.below Vb
  replace hp4 := hp4.below Vb
  replace hf := hf.below Vb
  replace hs := hs.below Vb
  replace bE := bE.later Vb
  replace bQ := bQ.later Vb
  replace bL := bL.later Vb
  replace hC := hC.below Vb
  replace hw := below2 hw Vb
  replace e0 := bE.cell 0 rfl
  replace e1 := bE.cell 1 rfl
  replace e2 := bE.cell 2 rfl
  replace q0 := bQ.cell 0 rfl
  replace q1 := bQ.cell 1 rfl
  replace q2 := bQ.cell 2 rfl
  replace q3 := bQ.cell 3 rfl
  replace l0 := bL.cell 0 rfl
  replace l1 := bL.cell 1 rfl
  replace l2 := bL.cell 2 rfl
  replace l3 := bL.cell 3 rfl
  clear Vb
  clear Vz bT
  refine (ints_any [0, 1] [0, 1] _ _ _ hu2 ht).mono ?_
  rw [show intsB [0, 1] [0, 1] = true by decide]
  rintro e wi ⟨rfl, hb⟩
  clear ht
  replace hu1 := hu1.below hb
  replace hu2 := hu2.below hb
  replace hv1 := hv1.below hb
  replace hv2 := hv2.below hb
  replace hp1 := hp1.below hb
  replace hp2 := hp2.below hb
  replace hp4 := hp4.below hb
  replace hf := hf.below hb
  replace hs := hs.below hb
  replace bE := bE.later hb
  replace bQ := bQ.later hb
  replace bL := bL.later hb
  replace hC := hC.below hb
  replace hw := below2 hw hb
  replace e0 := bE.cell 0 rfl
  replace e1 := bE.cell 1 rfl
  replace e2 := bE.cell 2 rfl
  replace q0 := bQ.cell 0 rfl
  replace q1 := bQ.cell 1 rfl
  replace q2 := bQ.cell 2 rfl
  replace q3 := bQ.cell 3 rfl
  replace l0 := bL.cell 0 rfl
  replace l1 := bL.cell 1 rfl
  replace l2 := bL.cell 2 rfl
  replace l3 := bL.cell 3 rfl
  clear hb
  go_wp2_with fail
  generalize hV1 : World.alloc wi _ = V1
  have zV1 : V1.heap.size = wi.heap.size + 1 := by rw [← hV1]; simp
  have bV1 : Below wi.heap.size wi V1 := by rw [← hV1]; exact bal wi _
  have bT : Blk V1 (wi.heap.size) [.int .i64 0] 3 := by rw [← hV1]; exact Blk.newA wi _ (by first | rfl | simp)
  have Vb := bV1
  have Vz := zV1
  clear hV1 zV1 bV1
  have ht : IntsAt V1 (.slice (some ⟨wi.heap.size, 0, none⟩) 1 1) [0] := ints_blk (l := [0]) bT (by decide)
  replace hu1 := hu1.below Vb
  replace hu2 := hu2.below Vb
  replace hv1 := hv1.below Vb
  replace hv2 := hv2.below Vb
  replace hp1 := hp1.below Vb
  replace hp2 := hp2.below Vb
  replace hp4 := hp4.below Vb
  replace hf := hf.below Vb
  replace hs := hs.below Vb
  replace bE := bE.later Vb
  replace bQ := bQ.later Vb
  replace bL := bL.later Vb
  replace hC := hC.below Vb
  replace hw := below2 hw Vb
  replace e0 := bE.cell 0 rfl
  replace e1 := bE.cell 1 rfl
  replace e2 := bE.cell 2 rfl
  replace q0 := bQ.cell 0 rfl
  replace q1 := bQ.cell 1 rfl
  replace q2 := bQ.cell 2 rfl
  replace q3 := bQ.cell 3 rfl
  replace l0 := bL.cell 0 rfl
  replace l1 := bL.cell 1 rfl
  replace l2 := bL.cell 2 rfl
  replace l3 := bL.cell 3 rfl
  clear Vb
  clear Vz bT
  refine (ints_any [0] [0] _ _ _ hv1 ht).mono ?_
  rw [show intsB [0] [0] = true by decide]
  rintro e wj ⟨rfl, hb⟩
  clear ht
  replace hu1 := hu1.below hb
  replace hu2 := hu2.below hb
  replace hv1 := hv1.below hb
  replace hv2 := hv2.below hb
  replace hp1 := hp1.below hb
  replace hp2 := hp2.below hb
  replace hp4 := hp4.below hb
  replace hf := hf.below hb
  replace hs := hs.below hb
  replace bE := bE.later hb
  replace bQ := bQ.later hb
  replace bL := bL.later hb
  replace hC := hC.below hb
  replace hw := below2 hw hb
  replace e0 := bE.cell 0 rfl
  replace e1 := bE.cell 1 rfl
  replace e2 := bE.cell 2 rfl
  replace q0 := bQ.cell 0 rfl
  replace q1 := bQ.cell 1 rfl
  replace q2 := bQ.cell 2 rfl
  replace q3 := bQ.cell 3 rfl
  replace l0 := bL.cell 0 rfl
  replace l1 := bL.cell 1 rfl
  replace l2 := bL.cell 2 rfl
  replace l3 := bL.cell 3 rfl
  clear hb
  go_wp2_with fail
  generalize hV1 : World.alloc wj _ = V1
  have zV1 : V1.heap.size = wj.heap.size + 1 := by rw [← hV1]; simp
  have bV1 : Below wj.heap.size wj V1 := by rw [← hV1]; exact bal wj _
  have bT : Blk V1 (wj.heap.size) [.int .i64 0, .int .i64 1] 3 := by rw [← hV1]; exact Blk.newA wj _ (by first | rfl | simp)
  have Vb := bV1
  have Vz := zV1
  clear hV1 zV1 bV1
  have ht : IntsAt V1 (.slice (some ⟨wj.heap.size, 0, none⟩) 2 2) [0, 1] := ints_blk (l := [0, 1]) bT (by decide)
  replace hu1 := hu1.below Vb
  replace hu2 := hu2.below Vb
  replace hv1 := hv1.below Vb
  replace hv2 := hv2.below Vb
  replace hp1 := hp1.below Vb
  replace hp2 := hp2.below Vb
  replace hp4 := hp4.below Vb
  replace hf := hf.below Vb
  replace hs := hs.below Vb
  replace bE := bE.later Vb
  replace bQ := bQ.later Vb
  replace bL := bL.later Vb
  replace hC := hC.below Vb
  replace hw := below2 hw Vb
  replace e0 := bE.cell 0 rfl
  replace e1 := bE.cell 1 rfl
  replace e2 := bE.cell 2 rfl
  replace q0 := bQ.cell 0 rfl
  replace q1 := bQ.cell 1 rfl
  replace q2 := bQ.cell 2 rfl
  replace q3 := bQ.cell 3 rfl
  replace l0 := bL.cell 0 rfl
  replace l1 := bL.cell 1 rfl
  replace l2 := bL.cell 2 rfl
  replace l3 := bL.cell 3 rfl
  clear Vb
  clear Vz bT
  refine (ints_any [0, 1] [0, 1] _ _ _ hv2 ht).mono ?_
  rw [show intsB [0, 1] [0, 1] = true by decide]
  rintro e wk ⟨rfl, hb⟩
  clear ht
  replace hu1 := hu1.below hb
  replace hu2 := hu2.below hb
  replace hv1 := hv1.below hb
  replace hv2 := hv2.below hb
  replace hp1 := hp1.below hb
  replace hp2 := hp2.below hb
  replace hp4 := hp4.below hb
  replace hf := hf.below hb
  replace hs := hs.below hb
  replace bE := bE.later hb
  replace bQ := bQ.later hb
  replace bL := bL.later hb
  replace hC := hC.below hb
  replace hw := below2 hw hb
  replace e0 := bE.cell 0 rfl
  replace e1 := bE.cell 1 rfl
  replace e2 := bE.cell 2 rfl
  replace q0 := bQ.cell 0 rfl
  replace q1 := bQ.cell 1 rfl
  replace q2 := bQ.cell 2 rfl
  replace q3 := bQ.cell 3 rfl
  replace l0 := bL.cell 0 rfl
  replace l1 := bL.cell 1 rfl
  replace l2 := bL.cell 2 rfl
  replace l3 := bL.cell 3 rfl
  clear hb
  go_wp2_with fail
  refine (validS_any exC _ _ _ _ hC).mono ?_
  rw [val1.1]
  rintro e wl ⟨rfl, hb⟩
  replace hu1 := hu1.below hb
  replace hu2 := hu2.below hb
  replace hv1 := hv1.below hb
  replace hv2 := hv2.below hb
  replace hp1 := hp1.below hb
  replace hp2 := hp2.below hb
  replace hp4 := hp4.below hb
  replace hf := hf.below hb
  replace hs := hs.below hb
  replace bE := bE.later hb
  replace bQ := bQ.later hb
  replace bL := bL.later hb
  replace hC := hC.below hb
  replace hw := below2 hw hb
  replace e0 := bE.cell 0 rfl
  replace e1 := bE.cell 1 rfl
  replace e2 := bE.cell 2 rfl
  replace q0 := bQ.cell 0 rfl
  replace q1 := bQ.cell 1 rfl
  replace q2 := bQ.cell 2 rfl
  replace q3 := bQ.cell 3 rfl
  replace l0 := bL.cell 0 rfl
  replace l1 := bL.cell 1 rfl
  replace l2 := bL.cell 2 rfl
  replace l3 := bL.cell 3 rfl
  clear hb
  go_wp2_with fail
  generalize hV1 : World.alloc wl _ = V1
  have zV1 : V1.heap.size = wl.heap.size + 1 := by rw [← hV1]; simp
  have bV1 : Below wl.heap.size wl V1 := by rw [← hV1]; exact bal wl _
  have bT : Blk V1 (wl.heap.size) [.int .i64 0, .int .i64 0, .int .i64 0, .slice none 0 0, .slice none 0 0, .int .i64 0] 38 := by rw [← hV1]; exact Blk.newA wl _ (by first | rfl | simp)
  have Vb := bV1
  have Vz := zV1
  clear hV1 zV1 bV1
  have ht : CodeIn V1.cell? (.slice (some ⟨wl.heap.size, 0, none⟩) 1 1) (.slice none 0 0) (.slice none 0 0) ⟨[clause0], [], []⟩ := ⟨⟨some ⟨wl.heap.size, 0, none⟩, 1, rfl, by simp, by omega, fun i hi => by
    have e : i = 0 := by simp at hi; exact hi
    subst e
    exact ⟨wl.heap.size, 0, .slice none 0 0, .slice none 0 0, rfl, bT.cell 0 rfl, bT.cell 1 rfl, bT.cell 2 rfl, bT.cell 3 rfl, bT.cell 4 rfl, bT.cell 5 rfl, IntsIn.nil _, IntsIn.nil _⟩⟩, RecIn.nil _, RecIn.nil _⟩
  replace hu1 := hu1.below Vb
  replace hu2 := hu2.below Vb
  replace hv1 := hv1.below Vb
  replace hv2 := hv2.below Vb
  replace hp1 := hp1.below Vb
  replace hp2 := hp2.below Vb
  replace hp4 := hp4.below Vb
  replace hf := hf.below Vb
  replace hs := hs.below Vb
  replace bE := bE.later Vb
  replace bQ := bQ.later Vb
  replace bL := bL.later Vb
  replace hC := hC.below Vb
  replace hw := below2 hw Vb
  replace e0 := bE.cell 0 rfl
  replace e1 := bE.cell 1 rfl
  replace e2 := bE.cell 2 rfl
  replace q0 := bQ.cell 0 rfl
  replace q1 := bQ.cell 1 rfl
  replace q2 := bQ.cell 2 rfl
  replace q3 := bQ.cell 3 rfl
  replace l0 := bL.cell 0 rfl
  replace l1 := bL.cell 1 rfl
  replace l2 := bL.cell 2 rfl
  replace l3 := bL.cell 3 rfl
  clear Vb
  clear Vz bT
  refine (validS_any ⟨[clause0], [], []⟩ _ _ _ _ ht).mono ?_
  rw [val1.2.1]
  rintro e wm ⟨rfl, hb⟩
  clear ht
  replace hu1 := hu1.below hb
  replace hu2 := hu2.below hb
  replace hv1 := hv1.below hb
  replace hv2 := hv2.below hb
  replace hp1 := hp1.below hb
  replace hp2 := hp2.below hb
  replace hp4 := hp4.below hb
  replace hf := hf.below hb
  replace hs := hs.below hb
  replace bE := bE.later hb
  replace bQ := bQ.later hb
  replace bL := bL.later hb
  replace hC := hC.below hb
  replace hw := below2 hw hb
  replace e0 := bE.cell 0 rfl
  replace e1 := bE.cell 1 rfl
  replace e2 := bE.cell 2 rfl
  replace q0 := bQ.cell 0 rfl
  replace q1 := bQ.cell 1 rfl
  replace q2 := bQ.cell 2 rfl
  replace q3 := bQ.cell 3 rfl
  replace l0 := bL.cell 0 rfl
  replace l1 := bL.cell 1 rfl
  replace l2 := bL.cell 2 rfl
  replace l3 := bL.cell 3 rfl
  clear hb
  go_wp2_with fail
  refine (asksS_any ⟨7, 3, 400, 400⟩ _).mono ?_
  rw [val1.2.2.1]
  rintro e wn ⟨rfl, hb⟩
  replace hu1 := hu1.below hb
  replace hu2 := hu2.below hb
  replace hv1 := hv1.below hb
  replace hv2 := hv2.below hb
  replace hp1 := hp1.below hb
  replace hp2 := hp2.below hb
  replace hp4 := hp4.below hb
  replace hf := hf.below hb
  replace hs := hs.below hb
  replace bE := bE.later hb
  replace bQ := bQ.later hb
  replace bL := bL.later hb
  replace hC := hC.below hb
  replace hw := below2 hw hb
  replace e0 := bE.cell 0 rfl
  replace e1 := bE.cell 1 rfl
  replace e2 := bE.cell 2 rfl
  replace q0 := bQ.cell 0 rfl
  replace q1 := bQ.cell 1 rfl
  replace q2 := bQ.cell 2 rfl
  replace q3 := bQ.cell 3 rfl
  replace l0 := bL.cell 0 rfl
  replace l1 := bL.cell 1 rfl
  replace l2 := bL.cell 2 rfl
  replace l3 := bL.cell 3 rfl
  clear hb
  go_wp2_with fail
  refine (asksS_any ⟨0, 0, -1, 0⟩ _).mono ?_
  rw [val1.2.2.2]
  rintro e wo ⟨rfl, hb⟩
  replace hu1 := hu1.below hb
  replace hu2 := hu2.below hb
  replace hv1 := hv1.below hb
  replace hv2 := hv2.below hb
  replace hp1 := hp1.below hb
  replace hp2 := hp2.below hb
  replace hp4 := hp4.below hb
  replace hf := hf.below hb
  replace hs := hs.below hb
  replace bE := bE.later hb
  replace bQ := bQ.later hb
  replace bL := bL.later hb
  replace hC := hC.below hb
  replace hw := below2 hw hb
  replace e0 := bE.cell 0 rfl
  replace e1 := bE.cell 1 rfl
  replace e2 := bE.cell 2 rfl
  replace q0 := bQ.cell 0 rfl
  replace q1 := bQ.cell 1 rfl
  replace q2 := bQ.cell 2 rfl
  replace q3 := bQ.cell 3 rfl
  replace l0 := bL.cell 0 rfl
  replace l1 := bL.cell 1 rfl
  replace l2 := bL.cell 2 rfl
  replace l3 := bL.cell 3 rfl
  clear hb
  go_wp2_with fail
  go_ret
  exact ⟨rfl, hw⟩
end Go.Proofs.YtdjldidfnddpmaaGreatDoor
/- Plain: what is left of laws when only what a proof leans on stays. No condition. -/
namespace Go.Proofs.YtdjldidfnddpmaaGreatDoor
theorem uses_in {c : CodeD} {q : QueryD} {n : Int} {h : Bool} {l : List FindD} (hp : provesB c (factsF c q) (clausesF c q) n h l = true) :
    (∀ i ∈ usesF l, 0 ≤ i ∧ i.toNat ∈ factsF c q) ∧ ∀ i ∈ usesC c (clausesF c q) l, 0 ≤ i ∧ i.toNat ∈ clausesF c q := by
  obtain ⟨-, a2, -⟩ := proves_iff.1 hp
  obtain ⟨-, hU⟩ := usesF_spec l
  obtain ⟨-, hV⟩ := usesC_spec c (clausesF c q) l
  refine ⟨fun i hi => ?_, fun i hi => ?_⟩
  · obtain ⟨y, hy, hm⟩ := (hU i).1 hi
    unfold leanF at hm
    split at hm
    · rename_i h0
      rw [List.mem_singleton] at hm
      subst hm
      have := (a2 y hy).2
      unfold rightB at this
      split at this
      · rw [List.any_eq_true] at this
        obtain ⟨k, hk, h3⟩ := this
        simp only [Bool.and_eq_true, decide_eq_true_eq] at h3
        exact ⟨h0, by rw [h3.1]; simpa using hk⟩
      · split at this <;> simp only [Bool.and_eq_true, decide_eq_true_eq] at this
        · omega
        · omega
    · cases hm
  · obtain ⟨y, hy, hm⟩ := (hV i).1 hi
    unfold leanC at hm
    split at hm
    · cases hm
    · split at hm
      · rename_i h0 h1
        rw [List.mem_singleton] at hm
        subst hm
        have := (a2 y hy).2
        unfold rightB at this
        split at this
        · rename_i h2
          simp only [Bool.and_eq_true, decide_eq_true_eq] at h2
          omega
        · split at this
          · simp only [Bool.and_eq_true, List.any_eq_true, decide_eq_true_eq] at this
            obtain ⟨-, k, hk, ⟨⟨h3, -⟩, -⟩, -⟩ := this
            exact ⟨h1, by rw [h3]; simpa using hk⟩
          · simp only [Bool.and_eq_true, decide_eq_true_eq] at this
            omega
      · obtain ⟨k, hk, rfl⟩ := List.mem_map.1 hm
        exact ⟨by omega, by simpa using (List.mem_filter.1 hk).1⟩
/-- the law of what a proof leans on -/
theorem leans_law {c : CodeD} {q : QueryD} (hV : validC c = true) (hq : asksB q = true) :
    let U := usesF (decideP c q)
    let V := usesC c (clausesF c q) (decideP c q)
    validC (lessC c U V) = true ∧ answerB (lessC c U V) q = answerB c q ∧ checkB (lessC c U V) q (answerB c q) ((decideP c q).map (movedF U V)) = true ∧ AscI U ∧ AscI V ∧
    (∀ i ∈ U, 0 ≤ i ∧ i < (c.facts.length : Int)) ∧ (∀ i ∈ V, 0 ≤ i ∧ i < (c.clauses.length : Int)) ∧ (decideP c q).length ≤ 20 := by
  intro U V
  have hd := decide_proves hV hq
  simp only [checkB, Bool.and_eq_true] at hd
  obtain ⟨hUi, hVi⟩ := uses_in hd.2
  have hU := (usesF_spec (decideP c q)).1
  have hVV := (usesC_spec c (clausesF c q) (decideP c q)).1
  have hUb : ∀ i ∈ U, 0 ≤ i ∧ i < (c.facts.length : Int) := fun i hi => ⟨(hUi i hi).1, by have := (factsF_lt (hUi i hi).2).1; omega⟩
  have hVb : ∀ i ∈ V, 0 ≤ i ∧ i < (c.clauses.length : Int) := fun i hi => ⟨(hVi i hi).1, by have := (clausesF_lt (hVi i hi).2).1; omega⟩
  have hv := less_valid hV hU hVV hUb hVb
  have hck : checkB (lessC c U V) q (answerB c q) ((decideP c q).map (movedF U V)) = true := by
    simp only [checkB, Bool.and_eq_true]
    refine ⟨⟨hv, hq⟩, ?_⟩
    rw [less_facts hUi, less_clauses hVi]
    exact leans_proves hd.2
  exact ⟨hv, (check_one hck).symm, hck, hU, hVV, hUb, hVb, proves_len hd.2⟩
theorem idxI_first {n : Int} : ∀ {l : List Int} {k : Nat}, k < l.length → n ∉ l.take k → l.getD k 0 = n → idxI l n = k
  | [], _, h, _, _ => by simp at h
  | x :: l, 0, _, _, h => by
    have : x = n := by simpa using h
    simp [idxI, this]
  | x :: l, k + 1, h0, h1, h2 => by
    have hx : x ≠ n := fun e => h1 (by simp [e])
    have ih := idxI_first (l := l) (k := k) (n := n) (by simpa using h0) (fun h => h1 (by simp [h])) (by simpa [List.getD_eq_getElem?_getD] using h2)
    simp only [idxI]
    rw [if_neg hx, ih, if_neg (by omega)]; simp
theorem asc_at {l : List Int} (h : AscI l) {i : Nat} (h0 : 0 < i) (hi : i < l.length) : l.getD (i - 1) 0 < l.getD i 0 := by
  unfold AscI at h
  rw [List.pairwise_iff_getElem] at h
  have := h (i - 1) i (by omega) hi (by omega)
  simp only [List.getD_eq_getElem?_getD, List.getElem?_eq_getElem hi, List.getElem?_eq_getElem (show i - 1 < l.length by omega)]
  exact this
/-- the repeals that stay, of the first k -/
def lessR (c : CodeD) (V : List Int) (k : Nat) : List RepealD := (((c.repeals.take k).filter fun r => decide (0 ≤ idxI V r.clause)).map fun r => ⟨idxI V r.clause, r.pub, r.from_⟩)
theorem lessR_succ (c : CodeD) (V : List Int) {k : Nat} (h : k < c.repeals.length) : lessR c V (k + 1) = if 0 ≤ idxI V (c.repeals.getD k repeal0).clause then lessR c V k ++ [⟨idxI V (c.repeals.getD k repeal0).clause, (c.repeals.getD k repeal0).pub, (c.repeals.getD k repeal0).from_⟩] else lessR c V k := by
  unfold lessR
  have e : c.repeals.take (k + 1) = c.repeals.take k ++ [c.repeals.getD k repeal0] := by
    rw [List.take_add_one, List.getElem?_eq_getElem h, List.getD_eq_getElem?_getD, List.getElem?_eq_getElem h]; rfl
  rw [e, List.filter_append, List.map_append]
  generalize c.repeals.getD k repeal0 = r
  by_cases h1 : 0 ≤ idxI V r.clause
  · rw [if_pos h1]; simp [h1]
  · rw [if_neg h1]; simp [h1]
theorem lessR_len (c : CodeD) (V : List Int) (k : Nat) : (lessR c V k).length ≤ k := by
  unfold lessR
  rw [List.length_map]
  exact Nat.le_trans (List.length_filter_le _ _) (by rw [List.length_take]; omega)
theorem lessR_all (c : CodeD) (U V : List Int) : lessR c V c.repeals.length = (lessC c U V).repeals := by
  unfold lessR lessC; rw [List.take_length]
end Go.Proofs.YtdjldidfnddpmaaGreatDoor
/- The walk of the law's index. Conditions: how the list lies in memory. -/
namespace Go.Proofs.YtdjldidfnddpmaaGreatDoor
open Go.RowKit
set_option maxRecDepth 100000 in
set_option maxHeartbeats 2000000 in
theorem indexl_any (l : List Int) (n : Int) (v : Value) (w : World) (hv : IntsIn w.cell? v l) : Calls Tryz.prog 11 #[v, .int .i64 n] w (Ret (.int .i64 (idxI l n)) w) := by
  have HV := hide hv
  obtain ⟨a, m, rfl, h1, h2, -⟩ := id hv
  have HF := hide (fun k (h0 : k < l.length) => idxI_first (n := n) h0)
  have HN := hide (idxI_not (n := n) (l := l))
  generalize idxI l n = R at HF HN ⊢
  clear hv
  have hlI : (l.length : Int) ≤ 9223372036854775807 := by omega
  go_enter Tryz.func11, Tryz.ntmps11
  go_wp2_with fail
  go_loopw [5] (fun i wr => ∃ k : Nat, k ≤ l.length ∧ i = .int .i64 k ∧ Hid (n ∉ l.take k) ∧ Below w.heap.size w wr) (fun i _ => l.length - (intOf i).toNat)
  case atStart => exact ⟨0, by omega, rfl, hide (by simp), Below.refl _ _⟩
  case round =>
    obtain ⟨k, hk, rfl, HM, hbr⟩ := hrel
    by_cases hlt : k < l.length
    · have HK := hide hlt
      obtain ⟨a', m', e', -, -, hc⟩ := HV.out
      cases e'
      obtain ⟨b, o, rfl, hckw⟩ := hc k hlt
      have hltI : (k : Int) < l.length := by omega
      have HMT := hide (mem_take_succ (n := n) hlt HM.out)
      have HFK := hide (HF.out k hlt HM.out)
      generalize l.getD k 0 = x at hckw HMT HFK
      have hck := keep hbr hckw
      clear hc
      by_cases hx : x = n
      · subst hx
        have e' : (x == x) = true := by simp
        have HR := hide (HFK.out rfl)
        go_wp2_with fail
        go_ret
        exact ⟨by rw [HR.out]; rfl, hbr⟩
      · have e' : (x == n) = false := by simp [hx]
        have HMN := hide (HMT.out hx)
        clear hx HMT HFK
        go_wp2_with fail
        go_roundw
        case rel => exact ⟨k + 1, by have := HK.out; omega, by go_num, HMN, hbr⟩
        case measure => have := HK.out; simp [intOf]; omega
    · obtain rfl : k = l.length := by omega
      have HE := hide (HN.out (by have := HM.out; rwa [List.take_length] at this))
      go_wp2_with fail
      go_ret
      exact ⟨by rw [HE.out]; rfl, hbr⟩
end Go.Proofs.YtdjldidfnddpmaaGreatDoor
/- The walk of StatuteJustifies. Conditions: how the arguments and the tables of math/bits lie in memory; that integers are of 64 bits. -/
namespace Go.Proofs.YtdjldidfnddpmaaGreatDoor
open Go.RowKit
theorem idx_bits {S th : Nat} {b : Bool} (hS : S < 2 ^ 32) (h : S.testBit th = b) : decide (0 ≤ idxI (natsJ (bitsOf S)) th) = b := by
  by_cases hm : (th : Int) ∈ natsJ (bitsOf S)
  · obtain ⟨j, -, e, -⟩ := idxI_mem hm
    obtain ⟨m, hm2, e2⟩ := List.mem_map.1 hm
    obtain rfl : m = th := by omega
    rw [← h, (bits_mem hS).1 hm2, e]
    exact decide_eq_true (by omega)
  · rw [idxI_not hm, ← h]
    cases hb : S.testBit th with
    | false => rfl
    | true => exact absurd (List.mem_map.2 ⟨th, (bits_mem hS).2 hb, rfl⟩) hm
def HoldsG (rs : List RuleD) (N S0 : Nat) (W : World) (u : Value) : Prop := ∃ S l, HeldP rs N S0 S l ∧ IntsIn W.cell? u (natsJ (bitsOf S))
theorem sum_pre {a b : Nat} (ha : a ≤ 8) (hb : b ≤ 7) : ∃ th : Nat, a + b = th ∧ IntKind.i64.wrap ((a : Int) + (b : Int)) = (th : Int) ∧ wrap64 ((a : Int) + (b : Int)) = (th : Int) ∧ a ≤ th ∧ th < a + 20 := by
  refine ⟨a + b, rfl, ?_, ?_, by omega, by omega⟩
  · rw [IntWalk.i64_in _ ⟨by omega, by omega⟩]; omega
  · rw [wrap_id (by omega) (by omega)]; omega
theorem lt_32 {S n : Nat} (h : S < 2 ^ (n + 20)) (hn : n ≤ 8) : S < 2 ^ 32 := Nat.lt_of_lt_of_le h (Nat.pow_le_pow_right (by omega) (by omega))
theorem min64 {n : Nat} (h : n ≤ 8) : min n 64 = n := by omega
theorem pow_pre8 {n : Nat} (h : n ≤ 8) : ∃ P P1 : Nat, 2 ^ n = P ∧ P - 1 = P1 ∧ P1 < 2 ^ n ∧ IntKind.i64.wrap (2 ^ n) = (P : Int) ∧ IntKind.i64.wrap ((P : Int) - 1) = (P1 : Int) := by
  have h1 : 2 ^ n ≤ 256 := Nat.pow_le_pow_right (n := 2) (by omega) h
  have h2 : 0 < 2 ^ n := Nat.two_pow_pos n
  have e : (2 : Int) ^ n = ((2 ^ n : Nat) : Int) := by simp
  refine ⟨2 ^ n, 2 ^ n - 1, rfl, rfl, by omega, ?_, ?_⟩
  · rw [e]; generalize 2 ^ n = Z at *; exact IntWalk.i64_in _ ⟨by omega, by omega⟩
  · generalize 2 ^ n = Z at *; rw [IntWalk.i64_in _ ⟨by omega, by omega⟩]; omega
set_option maxRecDepth 100000 in
set_option maxHeartbeats 4000000 in
theorem justifies_any (x : NumsD) (xc xr xf : Value) (a0 a1 a2 a3 : Int) (w : World) (hx : NumsIn w.cell? xc xr xf x) (h64 : Nums64 x) (ha : i64B a0 ∧ i64B a1 ∧ i64B a2 ∧ i64B a3) (hGl : Glob w) :
    Calls Tryz.prog 3 #[.agg #[xc, xr, xf], .agg #[.int .i64 a0, .int .i64 a1, .int .i64 a2, .int .i64 a3]] w (Ret (.bool true) w) := by
  have HG := hide hGl
  clear hGl
  have HX := hide hx
  have H64 := hide h64
  obtain ⟨A0, A1, A2, A3⟩ := ha
  have HA0 := hide A0
  have HA1 := hide A1
  have HA2 := hide A2
  have HA3 := hide A3
  obtain ⟨⟨xca, xcn, rfl, -, -, -⟩, ⟨xra, xrn, rfl, -, -, -⟩, ⟨xfa, xfn, rfl, -, -, -⟩⟩ := id hx
  clear hx h64 A0 A1 A2 A3
  go_enter Tryz.func3, Tryz.ntmps3
  go_wp2_with fail
  generalize hX1 : World.alloc w _ = X1
  have zX1 : X1.heap.size = w.heap.size + 1 := by rw [← hX1]; simp
  have bX1 : Below w.heap.size w X1 := by rw [← hX1]; exact bal w _
  have bN_1 : Blk X1 (w.heap.size) [.slice xca x.clauses.length xcn, .slice xra x.repeals.length xrn, .slice xfa x.facts.length xfn] 25 := by rw [← hX1]; exact Blk.newA w _ (by first | rfl | simp)
  generalize hX2 : World.alloc X1 _ = X2
  have zX2 : X2.heap.size = w.heap.size + 1 + 1 := by rw [← hX2]; simp [zX1]
  have bX2 : Below X1.heap.size X1 X2 := by rw [← hX2]; exact bal X1 _
  have bA : Blk X2 (w.heap.size + 1) [.int .i64 a0, .int .i64 a1, .int .i64 a2, .int .i64 a3] 26 := by rw [← hX2, ← zX1]; exact Blk.newA X1 _ (by first | rfl | simp)
  have bN := bN_1.later bX2
  have Xb := below2 (bX1) bX2
  have Xz := zX2
  clear hX1 zX1 bX1 hX2 zX2 bX2 bN_1
  refine (sane31_any _).mono ?_
  rintro e w1 ⟨rfl, hb1⟩
  replace bN := bN.later hb1
  replace bA := bA.later hb1
  have hw1 := below2 Xb hb1
  have n0 := bN.cell 0 rfl
  have n1 := bN.cell 1 rfl
  have n2 := bN.cell 2 rfl
  clear hb1 Xb Xz
  go_wp2_with fail
  refine (mader_any x _ _ _ w1 (HX.out.below hw1) H64.out).mono ?_
  rintro e w2 ⟨cv, rv, fv, B, rfl, hB1, hB2, hco, hb2⟩
  have HV := hide (madeC_valid x)
  have HLN := hide (made_lens x)
  generalize madeC x = c at *
  have hci : CodeIn w2.cell? cv rv fv c := (hco.at (C := 0) (Nat.zero_le _) (Nat.zero_le _)).keeps (keeps_frm _ _)
  obtain ⟨⟨ca, cn, rfl, hcl1, hcl2, -⟩, ⟨ra, rn, rfl, -, -, -⟩, ⟨fa, fn, rfl, -, -, -⟩⟩ := id hci
  have HW1 := hide hw1
  have hclI : (c.clauses.length : Int) ≤ 9223372036854775807 := by omega
  clear n0 n1 n2 bN hci HX H64 hw1
  go_wp2_with fail
  generalize hY1 : World.alloc w2 _ = Y1
  have zY1 : Y1.heap.size = w2.heap.size + 1 := by rw [← hY1]; simp
  have bY1 : Below w2.heap.size w2 Y1 := by rw [← hY1]; exact bal w2 _
  have bC : Blk Y1 (w2.heap.size) [.slice ca c.clauses.length cn, .slice ra c.repeals.length rn, .slice fa c.facts.length fn] 32 := by rw [← hY1]; exact Blk.newA w2 _ (by first | rfl | simp)
  have Yb := bY1
  have Yz := zY1
  clear hY1 zY1 bY1
  have HCO := hide (hco.later Yb)
  have HBA := hide bA
  have HB1 := hide hB1
  have hb2Y := below2 hb2 Yb
  have HSY : Hid (w2.heap.size < Y1.heap.size) := hide (by omega)
  clear hco hb2 Yb Yz bA hB1 hB2
  go_wp2_with fail
  have hG0 : CodeOwn Y1 w1.heap.size B (.slice ca c.clauses.length cn) (.slice ra c.repeals.length rn) (.slice fa c.facts.length fn) (nobK c 0) := HCO.out
  go_loopw [6] (fun i wr => ∃ k : Nat, k ≤ c.clauses.length ∧ i = .int .i64 k ∧ CodeOwn wr w1.heap.size B (.slice ca c.clauses.length cn) (.slice ra c.repeals.length rn) (.slice fa c.facts.length fn) (nobK c k) ∧ Blk wr w2.heap.size [.slice ca c.clauses.length cn, .slice ra c.repeals.length rn, .slice fa c.facts.length fn] 32 ∧ Below w1.heap.size w1 wr) (fun i _ => c.clauses.length - (intOf i).toNat)
  case atStart => exact ⟨0, by omega, rfl, hG0, bC, hb2Y⟩
  case round =>
    obtain ⟨k, hk, rfl, hcw, hbC, hbr⟩ := hrel
    have c0 := hbC.cell 0 rfl
    by_cases hlt : k < c.clauses.length
    · have hltI : (k : Int) < c.clauses.length := by omega
      have HK := hide hlt
      have hNL : (nobK c k).clauses.length = c.clauses.length := nob_len hk
      have hcw' : CodeOwn wr w1.heap.size B (.slice ca (nobK c k).clauses.length cn) (.slice ra c.repeals.length rn) (.slice fa c.facts.length fn) (nobK c k) := by rw [hNL]; exact hcw
      obtain ⟨g, rfl, hgB, hgl, ⟨u, hcu⟩, hfz, hne, hput⟩ := code_nil hcw' (k := k) (by rw [hNL]; exact hlt)
      rw [nob_step hlt, hNL] at hput
      have hbC2 := hbC.other (hne _ _ _ hbC (by decide)) (k * 6 + 4) (.slice none 0 0)
      have hbr2 := Below.setCell hbr (p := ⟨g, k * 6 + 4, none⟩) (Nat.le_trans HB1.out hgB) (.slice none 0 0)
      have HP := hide hput
      clear hput hne hgl hcw hcw' hgB
      go_wp2_with fail
      go_roundw
      case rel => exact ⟨k + 1, by have := HK.out; omega, by go_num, HP.out, hbC2, hbr2⟩
      case measure => have := HK.out; simp [intOf]; omega
    · obtain rfl : k = c.clauses.length := by omega
      rw [nob_all] at hcw
      have hVN := nob_valid HV.out
      have hcl8 : (nobC c).clauses.length = c.clauses.length := by simp [nobC]
      have hfe : c.facts.length = (nobC c).facts.length := rfl
      have hre : c.repeals.length = (nobC c).repeals.length := rfl
      have hl8 : (nobC c).clauses.length ≤ 8 ∧ (nobC c).facts.length ≤ 8 := ⟨by rw [hcl8]; exact HLN.out.1, HLN.out.2.2⟩
      have hbarN : ∀ i, i < (nobC c).clauses.length → ((nobC c).clauses.getD i clause0).bars = [] := fun i hi => by
        rw [nob_get (by rw [← hcl8]; exact hi)]; rfl
      rw [hfe, hre, ← hcl8] at hcw hbC ⊢
      rw [← hcl8] at c0 hclI
      have HVN := hide hVN
      have HBAR := hide hbarN
      have HL8 := hide hl8
      have HCW := hide hcw
      have bAr := HBA.out.below hbr HBA.out.lt
      have HWR := hide (below2 HW1.out hbr)
      have p0 := bAr.cell 0 rfl
      have p1 := bAr.cell 1 rfl
      have p2 := bAr.cell 2 rfl
      have p3 := bAr.cell 3 rfl
      have HQ := hide (askF_ok a0 a1 a2 a3)
      have HQB := hide (askF_bd a0 a1 a2 a3)
      have HAK := hide (fun W => askr_any a0 a1 a2 a3 W HA0.out HA1.out HA2.out HA3.out)
      clear hcw hVN hbarN hl8 hk hlt hcl1 hcl2 hG0 bC hb2Y
      generalize nobC c = c' at *
      generalize askF a0 a1 a2 a3 = q at *
      clear hfe hre hcl8 HCO HV HLN
      go_wp2_with fail
      refine (HAK.out _).mono ?_
      rintro e w3 ⟨rfl, hb3⟩
      have hbC3 := hbC.later hb3
      have HCW3 := hide (HCW.out.later hb3)
      have HWR3 := hide (below2 HWR.out hb3)
      have c0 := fun o => keep (bal w3 o) (hbC3.cell 0 rfl)
      have c1 := fun o => keep (bal w3 o) (hbC3.cell 1 rfl)
      have c2 := fun o => keep (bal w3 o) (hbC3.cell 2 rfl)
      clear hb3 bAr p0 p1 p2 p3
      go_wp2_with fail
      generalize hZ1 : World.alloc w3 _ = Z1
      have zZ1 : Z1.heap.size = w3.heap.size + 1 := by rw [← hZ1]; simp
      have bZ1 : Below w3.heap.size w3 Z1 := by rw [← hZ1]; exact bal w3 _
      have bQ : Blk Z1 (w3.heap.size) (queryC q) 40 := by rw [← hZ1]; exact Blk.newA w3 _ (by first | rfl | simp)
      have Zb := bZ1
      have Zz := zZ1
      clear hZ1 zZ1 bZ1
      have hbC4 := hbC3.later Zb
      have HCI := hide ((HCW3.out.later Zb).at (C := 0) (Nat.zero_le _) (Nat.zero_le _) |>.keeps (keeps_frm _ _))
      have HW4 := hide (below2 HWR3.out Zb)
      refine (appliesS_any c' q _ _ _ Z1 HCI.out).mono ?_
      rintro e w4 ⟨Fv, Cv, rfl, hFv, hCv, hb4⟩
      have e0 : errS c' q = 0 := by unfold errS; rw [HVN.out, HQ.out]; rfl
      have eF : appliesF c' q = intsN (factsF c' q) := by unfold appliesF; rw [HVN.out, HQ.out]; rfl
      have eC : appliesC c' q = intsN (clausesF c' q) := by unfold appliesC; rw [HVN.out, HQ.out]; rfl
      rw [e0]
      rw [eF] at hFv
      rw [eC] at hCv
      have hFl : (factsF c' q).length ≤ 8 := by
        have := List.length_filter_le (fun i => statesB (c'.facts.getD i fact0) q) (List.range c'.facts.length)
        rw [List.length_range] at this
        exact Nat.le_trans this HL8.out.2
      have hCl : (clausesF c' q).length ≤ 8 := by
        have := List.length_filter_le (fun i => rulesB c' i q) (List.range c'.clauses.length)
        rw [List.length_range] at this
        exact Nat.le_trans this HL8.out.1
      have HFI := hide (fun i (hi : i ∈ factsF c' q) => (factsF_lt hi).1)
      have HCLT := hide (clauses_lt c' q)
      have HSO := hide (fun N S l (h : HeldP (theoF c' (factsF c' q) (clausesF c' q)) N (2 ^ (factsF c' q).length - 1) S l) n => held_so HVN.out HCLT.out HFI.out (fun i hi => HBAR.out i (HCLT.out i hi)) h n)
      have HOK := hide (theo_ok HVN.out HCLT.out HFI.out (by omega) (by omega))
      have HAN : Hid (answerB c' q = soN c' (factsF c' q) (clausesF c' q) q.says) := hide rfl
      generalize factsF c' q = F at *
      generalize clausesF c' q = C at *
      clear e0 eF eC hbC hbC3 c0 c1 c2 HAK Zb Zz hbr
      have hFv' := hFv.at
      have hCv' := hCv.at
      obtain ⟨Fa, Fn, rfl, -⟩ := id hFv'
      obtain ⟨Ca, Cn, rfl, -⟩ := id hCv'
      rw [show (intsN F).length = F.length by unfold intsN; rw [List.length_map]] at hFv' ⊢
      rw [show (intsN C).length = C.length by unfold intsN; rw [List.length_map]] at hCv' ⊢
      have hbC5 := hbC4.later hb4
      have HBQ := hide (bQ.later hb4)
      have HCI5 := hide (HCI.out.below hb4)
      have HW5 := hide (below2 HW4.out hb4)
      have HFV := hide hFv'
      have HCV := hide hCv'
      have HFA : Hid (∀ i ∈ F, i < c'.facts.length ∧ 0 ≤ (c'.facts.getD i fact0).says ∧ (c'.facts.getD i fact0).says ≤ 19) := hide fun i hi => by
        have h1 := HFI.out i hi
        have h2 := valid_fact HVN.out h1
        simp only [factB, inB, Bool.and_eq_true, decide_eq_true_eq] at h2
        exact ⟨h1, h2.1.1.2⟩
      have HBC5 := hide hbC5
      clear hFv hCv hFv' hCv' bQ hbC4 hb4 hbC5
      go_wp2_with fail
      generalize hT1 : World.alloc w4 _ = T1
      have zT1 : T1.heap.size = w4.heap.size + 1 := by rw [← hT1]; simp
      have bT1 : Below w4.heap.size w4 T1 := by rw [← hT1]; exact bal w4 _
      have bT : Blk T1 (w4.heap.size) [.int .i64 F.length, .int .i64 20, .slice none 0 0] 47 := by rw [← hT1]; exact Blk.newA w4 _ (by first | rfl | simp)
      have Tb := bT1
      have Tz := zT1
      clear hT1 zT1 bT1
      refine just_loop2 w4 T1 c' F w2.heap.size _ _ fa Fa fn Fn HBC5.out HCI5.out.fa HFV.out HFA hFl bT Tb (by omega) _ _ _ _ _ _ _ _ _ _ _ _ _ _ _ _ _ _ _ _ _ _ _ _ _ _ _ _ _ _ _ _ _ _ _ _ _ _ _ _ _ _ _ _ _ _ _ _ _ _ _ _ _ _ _ _ _ _ _ _ _ _ _ _ _ _ _ _ _ _ _ _ _ _ _ _ _ _ _ _ _ _ _ _ _ _ _ _ _ _ _ _ _ _ _ _ _ _ _ _ _ _ _ _ _ _ _ _ _ _ _ _ _ _ _ _ _ _ _ _ _ _ _ _ _ _ _ _ _ _ _ _ _ _ _ _ _ _ _ _ _ _ _ _ _ _ _ _ _ _ _ _ _ _ _ _ _ _ _ _ _ _ _ _ _ _ _ _ _ _ _ _ _ _ _ _ _ _ _ _ _ _ _ _ _ _ _ _ _ _ _ _ _ _ _ _ _ _ _ _ _ _ _ _ _ _ _ _ _ _ _ _ _ _ _ ?_
      intro t4 t12 t54 t55 t56 t57 t58 t59 t60 t61 t62 t63 t64 t65 t66 t67 t68 t69 t70 t71 t72 t73 t74 t75 t76 t77 t78 t79 t80 t81 t82 t83 t84 t85 t86 t87 t88 t89 t90 t91 t92 t93 t94 w5 lv5 hRO5 hT5 hB5 hs5
      clear bT Tb Tz
      go_wp2_with fail
      refine just_loop3 w4 w5 c' F.length C (rulesK c' F F.length) w2.heap.size _ _ lv5 ca Ca cn Cn HBC5.out HCI5.out.cl HCV.out HCLT HVN hCl hFl (by rw [rulesK_len]; exact hFl) hRO5 hT5 hB5 hs5 _ _ _ _ _ _ _ _ _ _ _ _ _ _ _ _ _ _ _ _ _ _ _ _ _ _ _ _ _ _ _ _ _ _ _ _ _ _ _ _ _ _ _ _ _ _ _ _ _ _ _ _ _ _ _ _ _ _ _ _ _ _ _ _ _ _ _ _ _ _ _ _ _ _ _ _ _ _ _ _ _ _ _ _ _ _ _ _ _ _ _ _ _ _ _ _ _ _ _ _ _ _ _ _ _ _ _ _ _ _ _ _ _ _ _ _ _ _ _ _ _ _ _ _ _ _ _ _ _ _ _ _ _ _ _ _ _ _ _ _ _ _ _ _ _ _ _ _ _ _ _ _ _ _ _ _ _ _ _ _ _ _ _ _ _ _ _ _ _ _ _ _ _ _ _ _ _ _ _ _ _ _ _ _ _ _ _ _ _ _ _ _ _ _ _ _ _ _ _ _ _ _ _ _ _ _ _ _ _ _ _ _ _ _ _ ?_
      intro s4 s13 s14 s15 s16 s95 s96 s97 s98 s99 s100 s101 s102 s103 s104 s105 s106 s107 s108 s109 s110 s111 s112 s113 s114 s115 s116 s117 s118 s119 s120 s121 s122 s123 s124 s125 s126 s127 s128 s129 s130 s131 s132 s133 s134 s135 s136 s137 s138 s139 s140 s141 s142 s143 s144 s145 s146 s147 s148 s149 s150 s151 s152 s153 s154 s155 w6 lv6 hRO6 hT6 hB6 hs6
      have HRI : Hid (RulesIn w6.cell? lv6 (theoF c' F C)) := hide ((hRO6.at (C := 0) (Nat.zero_le _) (Nat.zero_le _)).keeps (keeps_frm _ _))
      have hbC6 := HBC5.out.later hB6
      have HCI6 := hide (HCI5.out.below hB6)
      have HW6 := hide (below2 HW5.out hB6)
      have HBQ6 := hide (HBQ.out.later hB6)
      have HT6 := hide hT6
      have HD := hide (decide_ok c' q _ _ _ w6 HCI6.out HVN.out HQ.out)
      have k0 := hbC6.cell 0 rfl
      have k1 := hbC6.cell 1 rfl
      have k2 := hbC6.cell 2 rfl
      have q0 := HBQ6.out.cell 0 rfl
      have q1 := HBQ6.out.cell 1 rfl
      have q2 := HBQ6.out.cell 2 rfl
      have q3 := HBQ6.out.cell 3 rfl
      clear hRO5 hT5 hB5 hs5 hRO6 hT6 hB6 hs6 hbC6
      go_wp2_with fail
      refine HD.out.mono ?_
      rintro e w7 ⟨la, ln, rfl, -, hb7⟩
      have HT7 := hide (HT6.out.later hb7)
      have HBQ7 := hide (HBQ6.out.later hb7)
      have HW7 := hide (below2 HW6.out hb7)
      have HRI7 := hide (HRI.out.below hb7)
      clear k0 k1 k2 q0 q1 q2 q3 hb7
      go_wp2_with fail
      obtain ⟨ta, tc, rfl, -⟩ := id HRI7.out
      obtain ⟨P, P1, hP, hP1, hP1l, hPw, hP1w⟩ := pow_pre8 hFl
      have HPP : Hid (P1 = 2 ^ F.length - 1) := hide (by rw [hP, hP1])
      have HHO := hide (fun X (hX : Below w7.heap.size w7 X) => jholds_any F.length 20 P1 _ (theoF c' F C) X HOK.out (HRI7.out.below hX) hP1l (HG.out.later (below2 HW7.out hX)))
      have HWH := hide (fun X th (hX : Below w7.heap.size w7 X) (h1 : F.length ≤ th) (h2 : th < F.length + 20) => why_any F.length 20 P1 th _ (theoF c' F C) X HOK.out (HRI7.out.below hX) hP1l h1 h2)
      rw [HPP.out] at HHO HWH
      rw [← HPP.out] at HHO HWH
      have HSA : Hid (∀ N S l, HeldP (theoF c' F C) N P1 S l → ∀ n : Nat, S.testBit (F.length + n) = soN c' F C n) := hide (fun N S l h n => HSO.out N S l (by rw [← HPP.out]; exact h) n)
      have hminF : min F.length 64 = F.length := min64 hFl
      obtain ⟨tl, htl⟩ : ∃ tl, (theoF c' F C).length = tl := ⟨_, rfl⟩
      rw [htl] at HT7 HHO HWH
      have t0 := HT7.out.cell 0 rfl
      have t1 := HT7.out.cell 1 rfl
      have t2 := HT7.out.cell 2 rfl
      clear hP hP1 hP1l htl HSO
      refine wp_region_inv [some 164, some 165, some 166, some 167, some 168, some 169, some 163, some 170, some 171, some 20, some 21] (fun L vs W => match vs with | [x0, x1, x2, x3, x4, x5, x6, x7, x8, x9, x10] => (Below w7.heap.size w7 W) ∧ (L 0 = true → x0 = .agg #[.int .i64 (F.length : Nat), .int .i64 20, .slice ta tl tc]) ∧ (L 1 = true → x1 = .slice Fa F.length Fn) ∧ (L 2 = true → x2 = .int .i64 (F.length : Nat)) ∧ (L 3 = true → x3 = .int .i64 (P : Nat)) ∧ (L 4 = true → x4 = .int .i64 (P1 : Nat)) ∧ (L 5 = true → ∃ u, x5 = .tuple #[u, .int .i64 0] ∧ HoldsG (theoF c' F C) (F.length + 20) P1 W u) ∧ (L 6 = true → L 5 = true ∧ x6 = x5) ∧ (L 7 = true → L 5 = true ∧ x5 = .tuple #[x7, .int .i64 0]) ∧ (L 8 = true → x8 = .int .i64 0) ∧ (L 9 = true → L 7 = true ∧ x9 = x7) ∧ (L 10 = true → x10 = .int .i64 0) | _ => False) [_, _, _, _, _, _, _, _, _, _, _] (by kernel_rfl) (by kernel_rfl) rfl (by simp only [puts, Act.put, List.setIfInBounds_toArray, List.set_cons_zero, List.set_cons_succ] <;> rfl) ?_ ?_ ?_
      · exact ⟨(Below.refl _ _).drew, (fun h => by cases h), (fun h => by cases h), (fun h => by cases h), (fun h => by cases h), (fun h => by cases h), (fun h => by cases h), (fun h => by cases h), (fun h => by cases h), (fun h => by cases h), (fun h => by cases h), (fun h => by cases h)⟩
      · refine ⟨?_, ?_, ?_, ?_, ?_, ?_, ?_, ?_, ?_, ?_, ?_, trivial⟩
        · intro L vs W hlen hL hD hI K hK
          obtain ⟨x0, x1, x2, x3, x4, x5, x6, x7, x8, x9, x10, rfl⟩ := len11 hlen
          have hG := hI.1
          replace hI := hI.2
          have f0 := hide hI.1
          replace hI := hI.2
          have f1 := hide hI.1
          replace hI := hI.2
          have f2 := hide hI.1
          replace hI := hI.2
          have f3 := hide hI.1
          replace hI := hI.2
          have f4 := hide hI.1
          replace hI := hI.2
          have f5 := hide hI.1
          replace hI := hI.2
          have f6 := hide hI.1
          replace hI := hI.2
          have f7 := hide hI.1
          replace hI := hI.2
          have f8 := hide hI.1
          replace hI := hI.2
          have f9 := hide hI.1
          replace hI := hI.2
          have f10 := hide hI
          clear hI
          have r00 := hG.size
          try simp only [puts, Act.put, List.setIfInBounds_toArray, List.set_cons_zero, List.set_cons_succ]
          have r0 := keep hG t0
          have r1 := keep hG t1
          have r2 := keep hG t2
          go_simp
          exact hK.out _ _ _ (by simp only [puts, Act.put, List.setIfInBounds_toArray, List.set_cons_zero, List.set_cons_succ] <;> rfl) ⟨hG, (fun _ => rfl), (fun h => f1.out h), (fun h => f2.out h), (fun h => f3.out h), (fun h => f4.out h), (fun h => f5.out h), (fun h => f6.out h), (fun h => f7.out h), (fun h => f8.out h), (fun h => f9.out h), (fun h => f10.out h)⟩
        · intro L vs W hlen hL hD hI K hK
          obtain ⟨x0, x1, x2, x3, x4, x5, x6, x7, x8, x9, x10, rfl⟩ := len11 hlen
          have hG := hI.1
          replace hI := hI.2
          have f0 := hide hI.1
          replace hI := hI.2
          have f1 := hide hI.1
          replace hI := hI.2
          have f2 := hide hI.1
          replace hI := hI.2
          have f3 := hide hI.1
          replace hI := hI.2
          have f4 := hide hI.1
          replace hI := hI.2
          have f5 := hide hI.1
          replace hI := hI.2
          have f6 := hide hI.1
          replace hI := hI.2
          have f7 := hide hI.1
          replace hI := hI.2
          have f8 := hide hI.1
          replace hI := hI.2
          have f9 := hide hI.1
          replace hI := hI.2
          have f10 := hide hI
          clear hI
          have r00 := hG.size
          try simp only [puts, Act.put, List.setIfInBounds_toArray, List.set_cons_zero, List.set_cons_succ]
          try go_simp
          exact hK.out _ _ _ (by simp only [puts, Act.put, List.setIfInBounds_toArray, List.set_cons_zero, List.set_cons_succ] <;> rfl) ⟨hG, (fun h => f0.out h), (fun _ => rfl), (fun h => f2.out h), (fun h => f3.out h), (fun h => f4.out h), (fun h => f5.out h), (fun h => f6.out h), (fun h => f7.out h), (fun h => f8.out h), (fun h => f9.out h), (fun h => f10.out h)⟩
        · intro L vs W hlen hL hD hI K hK
          obtain ⟨x0, x1, x2, x3, x4, x5, x6, x7, x8, x9, x10, rfl⟩ := len11 hlen
          have hG := hI.1
          replace hI := hI.2
          have f0 := hide hI.1
          replace hI := hI.2
          have f1 := hide hI.1
          replace hI := hI.2
          have f2 := hide hI.1
          replace hI := hI.2
          have f3 := hide hI.1
          replace hI := hI.2
          have f4 := hide hI.1
          replace hI := hI.2
          have f5 := hide hI.1
          replace hI := hI.2
          have f6 := hide hI.1
          replace hI := hI.2
          have f7 := hide hI.1
          replace hI := hI.2
          have f8 := hide hI.1
          replace hI := hI.2
          have f9 := hide hI.1
          replace hI := hI.2
          have f10 := hide hI
          clear hI
          have r00 := hG.size
          obtain rfl := f1.out (hD.on 1 (by kernel_rfl))
          try simp only [puts, Act.put, List.setIfInBounds_toArray, List.set_cons_zero, List.set_cons_succ]
          try go_simp
          exact hK.out _ _ _ (by simp only [puts, Act.put, List.setIfInBounds_toArray, List.set_cons_zero, List.set_cons_succ] <;> rfl) ⟨hG, (fun h => f0.out h), (fun h => f1.out h), (fun _ => rfl), (fun h => f3.out h), (fun h => f4.out h), (fun h => f5.out h), (fun h => f6.out h), (fun h => f7.out h), (fun h => f8.out h), (fun h => f9.out h), (fun h => f10.out h)⟩
        · intro L vs W hlen hL hD hI K hK
          obtain ⟨x0, x1, x2, x3, x4, x5, x6, x7, x8, x9, x10, rfl⟩ := len11 hlen
          have hG := hI.1
          replace hI := hI.2
          have f0 := hide hI.1
          replace hI := hI.2
          have f1 := hide hI.1
          replace hI := hI.2
          have f2 := hide hI.1
          replace hI := hI.2
          have f3 := hide hI.1
          replace hI := hI.2
          have f4 := hide hI.1
          replace hI := hI.2
          have f5 := hide hI.1
          replace hI := hI.2
          have f6 := hide hI.1
          replace hI := hI.2
          have f7 := hide hI.1
          replace hI := hI.2
          have f8 := hide hI.1
          replace hI := hI.2
          have f9 := hide hI.1
          replace hI := hI.2
          have f10 := hide hI
          clear hI
          have r00 := hG.size
          obtain rfl := f2.out (hD.on 2 (by kernel_rfl))
          try simp only [puts, Act.put, List.setIfInBounds_toArray, List.set_cons_zero, List.set_cons_succ]
          try go_simp
          exact hK.out _ _ _ (by simp only [puts, Act.put, List.setIfInBounds_toArray, List.set_cons_zero, List.set_cons_succ] <;> rfl) ⟨hG, (fun h => f0.out h), (fun h => f1.out h), (fun h => f2.out h), (fun _ => rfl), (fun h => f4.out h), (fun h => f5.out h), (fun h => f6.out h), (fun h => f7.out h), (fun h => f8.out h), (fun h => f9.out h), (fun h => f10.out h)⟩
        · intro L vs W hlen hL hD hI K hK
          obtain ⟨x0, x1, x2, x3, x4, x5, x6, x7, x8, x9, x10, rfl⟩ := len11 hlen
          have hG := hI.1
          replace hI := hI.2
          have f0 := hide hI.1
          replace hI := hI.2
          have f1 := hide hI.1
          replace hI := hI.2
          have f2 := hide hI.1
          replace hI := hI.2
          have f3 := hide hI.1
          replace hI := hI.2
          have f4 := hide hI.1
          replace hI := hI.2
          have f5 := hide hI.1
          replace hI := hI.2
          have f6 := hide hI.1
          replace hI := hI.2
          have f7 := hide hI.1
          replace hI := hI.2
          have f8 := hide hI.1
          replace hI := hI.2
          have f9 := hide hI.1
          replace hI := hI.2
          have f10 := hide hI
          clear hI
          have r00 := hG.size
          obtain rfl := f3.out (hD.on 3 (by kernel_rfl))
          try simp only [puts, Act.put, List.setIfInBounds_toArray, List.set_cons_zero, List.set_cons_succ]
          try go_simp
          exact hK.out _ _ _ (by simp only [puts, Act.put, List.setIfInBounds_toArray, List.set_cons_zero, List.set_cons_succ] <;> rfl) ⟨hG, (fun h => f0.out h), (fun h => f1.out h), (fun h => f2.out h), (fun h => f3.out h), (fun _ => rfl), (fun h => f5.out h), (fun h => f6.out h), (fun h => f7.out h), (fun h => f8.out h), (fun h => f9.out h), (fun h => f10.out h)⟩
        · intro L vs W hlen hL hD hI K hK
          obtain ⟨x0, x1, x2, x3, x4, x5, x6, x7, x8, x9, x10, rfl⟩ := len11 hlen
          have hG := hI.1
          replace hI := hI.2
          have f0 := hide hI.1
          replace hI := hI.2
          have f1 := hide hI.1
          replace hI := hI.2
          have f2 := hide hI.1
          replace hI := hI.2
          have f3 := hide hI.1
          replace hI := hI.2
          have f4 := hide hI.1
          replace hI := hI.2
          have f5 := hide hI.1
          replace hI := hI.2
          have f6 := hide hI.1
          replace hI := hI.2
          have f7 := hide hI.1
          replace hI := hI.2
          have f8 := hide hI.1
          replace hI := hI.2
          have f9 := hide hI.1
          replace hI := hI.2
          have f10 := hide hI
          clear hI
          have r00 := hG.size
          obtain rfl := f0.out (hD.on 0 (by kernel_rfl))
          obtain rfl := f4.out (hD.on 4 (by kernel_rfl))
          try simp only [puts, Act.put, List.setIfInBounds_toArray, List.set_cons_zero, List.set_cons_succ]
          try go_simp
          refine (HHO.out _ hG).mono ?_
          rintro e W' ⟨S, l, u, rfl, hH, ho, hb⟩
          try go_simp
          exact hK.out _ _ _ (by simp only [puts, Act.put, List.setIfInBounds_toArray, List.set_cons_zero, List.set_cons_succ] <;> rfl) ⟨below2 hG hb, (fun h => f0.out h), (fun h => f1.out h), (fun h => f2.out h), (fun h => f3.out h), (fun h => f4.out h), (fun _ => ⟨u, rfl, S, l, hH, ho.ints⟩), (fun h => (fun h => absurd (h.1.symm.trans hL) (by decide)) (f6.out h)), (fun h => (fun h => absurd (h.1.symm.trans hL) (by decide)) (f7.out h)), (fun h => f8.out h), (fun h => f9.out h), (fun h => f10.out h)⟩
        · intro L vs W hlen hL hD hI K hK
          obtain ⟨x0, x1, x2, x3, x4, x5, x6, x7, x8, x9, x10, rfl⟩ := len11 hlen
          have hG := hI.1
          replace hI := hI.2
          have f0 := hide hI.1
          replace hI := hI.2
          have f1 := hide hI.1
          replace hI := hI.2
          have f2 := hide hI.1
          replace hI := hI.2
          have f3 := hide hI.1
          replace hI := hI.2
          have f4 := hide hI.1
          replace hI := hI.2
          have f5 := hide hI.1
          replace hI := hI.2
          have f6 := hide hI.1
          replace hI := hI.2
          have f7 := hide hI.1
          replace hI := hI.2
          have f8 := hide hI.1
          replace hI := hI.2
          have f9 := hide hI.1
          replace hI := hI.2
          have f10 := hide hI
          clear hI
          have r00 := hG.size
          have g5 := f5.out (hD.on 5 (by kernel_rfl))
          try simp only [puts, Act.put, List.setIfInBounds_toArray, List.set_cons_zero, List.set_cons_succ]
          obtain ⟨u1, rfl, -⟩ := g5
          go_simp
          exact hK.out _ _ _ (by simp only [puts, Act.put, List.setIfInBounds_toArray, List.set_cons_zero, List.set_cons_succ] <;> rfl) ⟨hG, (fun h => f0.out h), (fun h => f1.out h), (fun h => f2.out h), (fun h => f3.out h), (fun h => f4.out h), (fun h => f5.out h), (fun _ => ⟨hD.on 5 (by kernel_rfl), rfl⟩), (fun h => f7.out h), (fun h => f8.out h), (fun h => f9.out h), (fun h => f10.out h)⟩
        · intro L vs W hlen hL hD hI K hK
          obtain ⟨x0, x1, x2, x3, x4, x5, x6, x7, x8, x9, x10, rfl⟩ := len11 hlen
          have hG := hI.1
          replace hI := hI.2
          have f0 := hide hI.1
          replace hI := hI.2
          have f1 := hide hI.1
          replace hI := hI.2
          have f2 := hide hI.1
          replace hI := hI.2
          have f3 := hide hI.1
          replace hI := hI.2
          have f4 := hide hI.1
          replace hI := hI.2
          have f5 := hide hI.1
          replace hI := hI.2
          have f6 := hide hI.1
          replace hI := hI.2
          have f7 := hide hI.1
          replace hI := hI.2
          have f8 := hide hI.1
          replace hI := hI.2
          have f9 := hide hI.1
          replace hI := hI.2
          have f10 := hide hI
          clear hI
          have r00 := hG.size
          have g6 := f6.out (hD.on 6 (by kernel_rfl))
          try simp only [puts, Act.put, List.setIfInBounds_toArray, List.set_cons_zero, List.set_cons_succ]
          have q6 := g6.1
          obtain rfl := g6.2
          have g5 := f5.out q6
          obtain ⟨u1, rfl, -⟩ := g5
          go_simp
          exact hK.out _ _ _ (by simp only [puts, Act.put, List.setIfInBounds_toArray, List.set_cons_zero, List.set_cons_succ] <;> rfl) ⟨hG, (fun h => f0.out h), (fun h => f1.out h), (fun h => f2.out h), (fun h => f3.out h), (fun h => f4.out h), (fun h => f5.out h), (fun h => f6.out h), (fun _ => ⟨q6, rfl⟩), (fun h => f8.out h), (fun h => (fun h => absurd (h.1.symm.trans hL) (by decide)) (f9.out h)), (fun h => f10.out h)⟩
        · intro L vs W hlen hL hD hI K hK
          obtain ⟨x0, x1, x2, x3, x4, x5, x6, x7, x8, x9, x10, rfl⟩ := len11 hlen
          have hG := hI.1
          replace hI := hI.2
          have f0 := hide hI.1
          replace hI := hI.2
          have f1 := hide hI.1
          replace hI := hI.2
          have f2 := hide hI.1
          replace hI := hI.2
          have f3 := hide hI.1
          replace hI := hI.2
          have f4 := hide hI.1
          replace hI := hI.2
          have f5 := hide hI.1
          replace hI := hI.2
          have f6 := hide hI.1
          replace hI := hI.2
          have f7 := hide hI.1
          replace hI := hI.2
          have f8 := hide hI.1
          replace hI := hI.2
          have f9 := hide hI.1
          replace hI := hI.2
          have f10 := hide hI
          clear hI
          have r00 := hG.size
          have g6 := f6.out (hD.on 6 (by kernel_rfl))
          try simp only [puts, Act.put, List.setIfInBounds_toArray, List.set_cons_zero, List.set_cons_succ]
          have q6 := g6.1
          obtain rfl := g6.2
          have g5 := f5.out q6
          obtain ⟨u1, rfl, -⟩ := g5
          go_simp
          exact hK.out _ _ _ (by simp only [puts, Act.put, List.setIfInBounds_toArray, List.set_cons_zero, List.set_cons_succ] <;> rfl) ⟨hG, (fun h => f0.out h), (fun h => f1.out h), (fun h => f2.out h), (fun h => f3.out h), (fun h => f4.out h), (fun h => f5.out h), (fun h => f6.out h), (fun h => f7.out h), (fun _ => rfl), (fun h => f9.out h), (fun h => f10.out h)⟩
        · intro L vs W hlen hL hD hI K hK
          obtain ⟨x0, x1, x2, x3, x4, x5, x6, x7, x8, x9, x10, rfl⟩ := len11 hlen
          have hG := hI.1
          replace hI := hI.2
          have f0 := hide hI.1
          replace hI := hI.2
          have f1 := hide hI.1
          replace hI := hI.2
          have f2 := hide hI.1
          replace hI := hI.2
          have f3 := hide hI.1
          replace hI := hI.2
          have f4 := hide hI.1
          replace hI := hI.2
          have f5 := hide hI.1
          replace hI := hI.2
          have f6 := hide hI.1
          replace hI := hI.2
          have f7 := hide hI.1
          replace hI := hI.2
          have f8 := hide hI.1
          replace hI := hI.2
          have f9 := hide hI.1
          replace hI := hI.2
          have f10 := hide hI
          clear hI
          have r00 := hG.size
          have g7 := f7.out (hD.on 7 (by kernel_rfl))
          try simp only [puts, Act.put, List.setIfInBounds_toArray, List.set_cons_zero, List.set_cons_succ]
          clear g7
          go_simp
          exact hK.out _ _ _ (by simp only [puts, Act.put, List.setIfInBounds_toArray, List.set_cons_zero, List.set_cons_succ] <;> rfl) ⟨hG, (fun h => f0.out h), (fun h => f1.out h), (fun h => f2.out h), (fun h => f3.out h), (fun h => f4.out h), (fun h => f5.out h), (fun h => f6.out h), (fun h => f7.out h), (fun h => f8.out h), (fun _ => ⟨hD.on 7 (by kernel_rfl), rfl⟩), (fun h => f10.out h)⟩
        · intro L vs W hlen hL hD hI K hK
          obtain ⟨x0, x1, x2, x3, x4, x5, x6, x7, x8, x9, x10, rfl⟩ := len11 hlen
          have hG := hI.1
          replace hI := hI.2
          have f0 := hide hI.1
          replace hI := hI.2
          have f1 := hide hI.1
          replace hI := hI.2
          have f2 := hide hI.1
          replace hI := hI.2
          have f3 := hide hI.1
          replace hI := hI.2
          have f4 := hide hI.1
          replace hI := hI.2
          have f5 := hide hI.1
          replace hI := hI.2
          have f6 := hide hI.1
          replace hI := hI.2
          have f7 := hide hI.1
          replace hI := hI.2
          have f8 := hide hI.1
          replace hI := hI.2
          have f9 := hide hI.1
          replace hI := hI.2
          have f10 := hide hI
          clear hI
          have r00 := hG.size
          obtain rfl := f8.out (hD.on 8 (by kernel_rfl))
          try simp only [puts, Act.put, List.setIfInBounds_toArray, List.set_cons_zero, List.set_cons_succ]
          try go_simp
          exact hK.out _ _ _ (by simp only [puts, Act.put, List.setIfInBounds_toArray, List.set_cons_zero, List.set_cons_succ] <;> rfl) ⟨hG, (fun h => f0.out h), (fun h => f1.out h), (fun h => f2.out h), (fun h => f3.out h), (fun h => f4.out h), (fun h => f5.out h), (fun h => f6.out h), (fun h => f7.out h), (fun h => f8.out h), (fun h => f9.out h), (fun _ => rfl)⟩
      intro L vs W hlen hall hI
      obtain ⟨x0, x1, x2, x3, x4, x5, x6, x7, x8, x9, x10, rfl⟩ := len11 hlen
      have hG := hI.1
      replace hI := hI.2
      have f0 := hide hI.1
      replace hI := hI.2
      have f1 := hide hI.1
      replace hI := hI.2
      have f2 := hide hI.1
      replace hI := hI.2
      have f3 := hide hI.1
      replace hI := hI.2
      have f4 := hide hI.1
      replace hI := hI.2
      have f5 := hide hI.1
      replace hI := hI.2
      have f6 := hide hI.1
      replace hI := hI.2
      have f7 := hide hI.1
      replace hI := hI.2
      have f8 := hide hI.1
      replace hI := hI.2
      have f9 := hide hI.1
      replace hI := hI.2
      have f10 := hide hI
      clear hI
      obtain rfl := f0.out (hall 0 (by decide))
      obtain rfl := f1.out (hall 1 (by decide))
      obtain rfl := f2.out (hall 2 (by decide))
      obtain rfl := f3.out (hall 3 (by decide))
      obtain rfl := f4.out (hall 4 (by decide))
      have g5 := f5.out (hall 5 (by decide))
      have g6 := f6.out (hall 6 (by decide))
      have g7 := f7.out (hall 7 (by decide))
      obtain rfl := f8.out (hall 8 (by decide))
      have g9 := f9.out (hall 9 (by decide))
      obtain rfl := f10.out (hall 10 (by decide))
      have hal := hide hall
      clear hall f0 f1 f2 f3 f4 f5 f6 f7 f8 f9 f10
      try simp only [puts, Act.put, List.setIfInBounds_toArray, List.set_cons_zero, List.set_cons_succ]
      obtain ⟨u0', rfl, S, l, hH8, hu8⟩ := g5
      obtain ⟨-, rfl⟩ := g6
      obtain ⟨-, e7⟩ := g7
      obtain ⟨-, rfl⟩ := g9
      obtain rfl : u0' = x9 := by injection e7 with e7; simpa using e7
      obtain ⟨ha8, hc8, rfl, -⟩ := id hu8
      have hw8 := hG
      have HH8 := hide hH8
      have HU8 := hide hu8
      obtain ⟨w8, rfl⟩ : ∃ X, X = W := ⟨_, rfl⟩
      have HT8 := hide (HT7.out.later hw8)
      have HBQ8 := hide (HBQ7.out.later hw8)
      have HW8 := hide (below2 HW7.out hw8)
      obtain ⟨sy, hsy⟩ : ∃ sy : Nat, q.says = sy := ⟨q.says.toNat, by have := HQB.out.2.1; omega⟩
      have hsy19 : sy ≤ 7 := by have := HQB.out.2.1; omega
      have t0 := HT8.out.cell 0 rfl
      have t1 := HT8.out.cell 1 rfl
      have t2 := HT8.out.cell 2 rfl
      have q1 : w8.cell? ⟨w3.heap.size, 1, none⟩ = some (.int .i64 (sy : Nat)) := by rw [← hsy]; exact HBQ8.out.cell 1 rfl
      obtain ⟨th, hth, egt, egt2, hth1, hth2⟩ := sum_pre hFl hsy19
      have HTH := hide (And.intro hth1 hth2)
      clear hth1 hth2
      have hans : ∀ N S l, HeldP (theoF c' F C) N P1 S l → S.testBit th = answerB c' q := fun N S l h => by
        rw [HAN.out, hsy, ← hth]; exact HSA.out N S l h sy
      have hidx := hans _ S l HH8.out
      have HANS := hide hans
      have hS32 : Hid (S < 2 ^ 32) := hide (lt_32 HH8.out.i.bd hFl)
      have HIDX := hide (idx_bits hS32.out hidx)
      generalize answerB c' q = ANS at *
      have HWY : Hid (∀ X, Below w8.heap.size w8 X → Calls Tryz.prog 10 #[.agg #[.int .i64 (F.length : Nat), .int .i64 (20 : Nat), .slice ta tl tc], .int .i64 (P1 : Nat), .int .i64 (th : Nat)] X (fun e w' => ∃ a n c, e = .returned (.tuple #[.slice a n c, .bool ANS]) ∧ (ANS = true → 0 < n) ∧ Below X.heap.size X w')) := hide fun X hX => (HWH.out X th (below2 hw8 hX) HTH.out.1 HTH.out.2).mono fun e w' ⟨S2, l2, a, n, c, e1, e2, e3, e4⟩ => by
        rw [HANS.out _ _ _ e2] at e1 e3
        exact ⟨a, n, c, e1, e3, e4⟩
      clear hH8 hu8 hG hal e7 hans hidx hsy19 hsy
      go_wp2_with fail
      refine wp_region_inv [some 173, some 174, some 175, some 176, some 177, some 178, some 179, some 180, some 181, some 182, some 183, some 172, some 184, some 185, some 22, some 23] (fun L vs W => match vs with | [x0, x1, x2, x3, x4, x5, x6, x7, x8, x9, x10, x11, x12, x13, x14, x15] => (Below w8.heap.size w8 W) ∧ (L 0 = true → x0 = .agg #[.int .i64 (F.length : Nat), .int .i64 20, .slice ta tl tc]) ∧ (L 1 = true → x1 = .slice Fa F.length Fn) ∧ (L 2 = true → x2 = .int .i64 (F.length : Nat)) ∧ (L 3 = true → x3 = .int .i64 (P : Nat)) ∧ (L 4 = true → x4 = .int .i64 (P1 : Nat)) ∧ (L 5 = true → x5 = .pointer (some ⟨w4.heap.size, 0, none⟩)) ∧ (L 6 = true → x6 = .int .i64 (F.length : Nat)) ∧ (L 7 = true → x7 = .pointer (some ⟨w3.heap.size, 1, none⟩)) ∧ (L 8 = true → x8 = .int .i64 (sy : Nat)) ∧ (L 9 = true → x9 = .int .i64 (th : Nat)) ∧ (L 10 = true → ∃ wa wn wc, x10 = .tuple #[.slice wa wn wc, .bool ANS] ∧ (ANS = true → 0 < wn)) ∧ (L 11 = true → L 10 = true ∧ x11 = x10) ∧ (L 12 = true → L 10 = true ∧ x10 = .tuple #[x12, .bool ANS]) ∧ (L 13 = true → x13 = .bool ANS) ∧ (L 14 = true → L 12 = true ∧ x14 = x12) ∧ (L 15 = true → x15 = .bool ANS) | _ => False) [_, _, _, _, _, _, _, _, _, _, _, _, _, _, _, _] (by kernel_rfl) (by kernel_rfl) rfl (by simp only [puts, Act.put, List.setIfInBounds_toArray, List.set_cons_zero, List.set_cons_succ] <;> rfl) ?_ ?_ ?_
      · exact ⟨(Below.refl _ _).drew, (fun h => by cases h), (fun h => by cases h), (fun h => by cases h), (fun h => by cases h), (fun h => by cases h), (fun h => by cases h), (fun h => by cases h), (fun h => by cases h), (fun h => by cases h), (fun h => by cases h), (fun h => by cases h), (fun h => by cases h), (fun h => by cases h), (fun h => by cases h), (fun h => by cases h), (fun h => by cases h)⟩
      · refine ⟨?_, ?_, ?_, ?_, ?_, ?_, ?_, ?_, ?_, ?_, ?_, ?_, ?_, ?_, ?_, ?_, trivial⟩
        · intro L vs W hlen hL hD hI K hK
          obtain ⟨x0, x1, x2, x3, x4, x5, x6, x7, x8, x9, x10, x11, x12, x13, x14, x15, rfl⟩ := len16 hlen
          have hG := hI.1
          replace hI := hI.2
          have f0 := hide hI.1
          replace hI := hI.2
          have f1 := hide hI.1
          replace hI := hI.2
          have f2 := hide hI.1
          replace hI := hI.2
          have f3 := hide hI.1
          replace hI := hI.2
          have f4 := hide hI.1
          replace hI := hI.2
          have f5 := hide hI.1
          replace hI := hI.2
          have f6 := hide hI.1
          replace hI := hI.2
          have f7 := hide hI.1
          replace hI := hI.2
          have f8 := hide hI.1
          replace hI := hI.2
          have f9 := hide hI.1
          replace hI := hI.2
          have f10 := hide hI.1
          replace hI := hI.2
          have f11 := hide hI.1
          replace hI := hI.2
          have f12 := hide hI.1
          replace hI := hI.2
          have f13 := hide hI.1
          replace hI := hI.2
          have f14 := hide hI.1
          replace hI := hI.2
          have f15 := hide hI
          clear hI
          have r00 := hG.size
          try simp only [puts, Act.put, List.setIfInBounds_toArray, List.set_cons_zero, List.set_cons_succ]
          have r0 := keep hG t0
          have r1 := keep hG t1
          have r2 := keep hG t2
          go_simp
          exact hK.out _ _ _ (by simp only [puts, Act.put, List.setIfInBounds_toArray, List.set_cons_zero, List.set_cons_succ] <;> rfl) ⟨hG, (fun _ => rfl), (fun h => f1.out h), (fun h => f2.out h), (fun h => f3.out h), (fun h => f4.out h), (fun h => f5.out h), (fun h => f6.out h), (fun h => f7.out h), (fun h => f8.out h), (fun h => f9.out h), (fun h => f10.out h), (fun h => f11.out h), (fun h => f12.out h), (fun h => f13.out h), (fun h => f14.out h), (fun h => f15.out h)⟩
        · intro L vs W hlen hL hD hI K hK
          obtain ⟨x0, x1, x2, x3, x4, x5, x6, x7, x8, x9, x10, x11, x12, x13, x14, x15, rfl⟩ := len16 hlen
          have hG := hI.1
          replace hI := hI.2
          have f0 := hide hI.1
          replace hI := hI.2
          have f1 := hide hI.1
          replace hI := hI.2
          have f2 := hide hI.1
          replace hI := hI.2
          have f3 := hide hI.1
          replace hI := hI.2
          have f4 := hide hI.1
          replace hI := hI.2
          have f5 := hide hI.1
          replace hI := hI.2
          have f6 := hide hI.1
          replace hI := hI.2
          have f7 := hide hI.1
          replace hI := hI.2
          have f8 := hide hI.1
          replace hI := hI.2
          have f9 := hide hI.1
          replace hI := hI.2
          have f10 := hide hI.1
          replace hI := hI.2
          have f11 := hide hI.1
          replace hI := hI.2
          have f12 := hide hI.1
          replace hI := hI.2
          have f13 := hide hI.1
          replace hI := hI.2
          have f14 := hide hI.1
          replace hI := hI.2
          have f15 := hide hI
          clear hI
          have r00 := hG.size
          try simp only [puts, Act.put, List.setIfInBounds_toArray, List.set_cons_zero, List.set_cons_succ]
          try go_simp
          exact hK.out _ _ _ (by simp only [puts, Act.put, List.setIfInBounds_toArray, List.set_cons_zero, List.set_cons_succ] <;> rfl) ⟨hG, (fun h => f0.out h), (fun _ => rfl), (fun h => f2.out h), (fun h => f3.out h), (fun h => f4.out h), (fun h => f5.out h), (fun h => f6.out h), (fun h => f7.out h), (fun h => f8.out h), (fun h => f9.out h), (fun h => f10.out h), (fun h => f11.out h), (fun h => f12.out h), (fun h => f13.out h), (fun h => f14.out h), (fun h => f15.out h)⟩
        · intro L vs W hlen hL hD hI K hK
          obtain ⟨x0, x1, x2, x3, x4, x5, x6, x7, x8, x9, x10, x11, x12, x13, x14, x15, rfl⟩ := len16 hlen
          have hG := hI.1
          replace hI := hI.2
          have f0 := hide hI.1
          replace hI := hI.2
          have f1 := hide hI.1
          replace hI := hI.2
          have f2 := hide hI.1
          replace hI := hI.2
          have f3 := hide hI.1
          replace hI := hI.2
          have f4 := hide hI.1
          replace hI := hI.2
          have f5 := hide hI.1
          replace hI := hI.2
          have f6 := hide hI.1
          replace hI := hI.2
          have f7 := hide hI.1
          replace hI := hI.2
          have f8 := hide hI.1
          replace hI := hI.2
          have f9 := hide hI.1
          replace hI := hI.2
          have f10 := hide hI.1
          replace hI := hI.2
          have f11 := hide hI.1
          replace hI := hI.2
          have f12 := hide hI.1
          replace hI := hI.2
          have f13 := hide hI.1
          replace hI := hI.2
          have f14 := hide hI.1
          replace hI := hI.2
          have f15 := hide hI
          clear hI
          have r00 := hG.size
          obtain rfl := f1.out (hD.on 1 (by kernel_rfl))
          try simp only [puts, Act.put, List.setIfInBounds_toArray, List.set_cons_zero, List.set_cons_succ]
          try go_simp
          exact hK.out _ _ _ (by simp only [puts, Act.put, List.setIfInBounds_toArray, List.set_cons_zero, List.set_cons_succ] <;> rfl) ⟨hG, (fun h => f0.out h), (fun h => f1.out h), (fun _ => rfl), (fun h => f3.out h), (fun h => f4.out h), (fun h => f5.out h), (fun h => f6.out h), (fun h => f7.out h), (fun h => f8.out h), (fun h => f9.out h), (fun h => f10.out h), (fun h => f11.out h), (fun h => f12.out h), (fun h => f13.out h), (fun h => f14.out h), (fun h => f15.out h)⟩
        · intro L vs W hlen hL hD hI K hK
          obtain ⟨x0, x1, x2, x3, x4, x5, x6, x7, x8, x9, x10, x11, x12, x13, x14, x15, rfl⟩ := len16 hlen
          have hG := hI.1
          replace hI := hI.2
          have f0 := hide hI.1
          replace hI := hI.2
          have f1 := hide hI.1
          replace hI := hI.2
          have f2 := hide hI.1
          replace hI := hI.2
          have f3 := hide hI.1
          replace hI := hI.2
          have f4 := hide hI.1
          replace hI := hI.2
          have f5 := hide hI.1
          replace hI := hI.2
          have f6 := hide hI.1
          replace hI := hI.2
          have f7 := hide hI.1
          replace hI := hI.2
          have f8 := hide hI.1
          replace hI := hI.2
          have f9 := hide hI.1
          replace hI := hI.2
          have f10 := hide hI.1
          replace hI := hI.2
          have f11 := hide hI.1
          replace hI := hI.2
          have f12 := hide hI.1
          replace hI := hI.2
          have f13 := hide hI.1
          replace hI := hI.2
          have f14 := hide hI.1
          replace hI := hI.2
          have f15 := hide hI
          clear hI
          have r00 := hG.size
          obtain rfl := f2.out (hD.on 2 (by kernel_rfl))
          try simp only [puts, Act.put, List.setIfInBounds_toArray, List.set_cons_zero, List.set_cons_succ]
          try go_simp
          exact hK.out _ _ _ (by simp only [puts, Act.put, List.setIfInBounds_toArray, List.set_cons_zero, List.set_cons_succ] <;> rfl) ⟨hG, (fun h => f0.out h), (fun h => f1.out h), (fun h => f2.out h), (fun _ => rfl), (fun h => f4.out h), (fun h => f5.out h), (fun h => f6.out h), (fun h => f7.out h), (fun h => f8.out h), (fun h => f9.out h), (fun h => f10.out h), (fun h => f11.out h), (fun h => f12.out h), (fun h => f13.out h), (fun h => f14.out h), (fun h => f15.out h)⟩
        · intro L vs W hlen hL hD hI K hK
          obtain ⟨x0, x1, x2, x3, x4, x5, x6, x7, x8, x9, x10, x11, x12, x13, x14, x15, rfl⟩ := len16 hlen
          have hG := hI.1
          replace hI := hI.2
          have f0 := hide hI.1
          replace hI := hI.2
          have f1 := hide hI.1
          replace hI := hI.2
          have f2 := hide hI.1
          replace hI := hI.2
          have f3 := hide hI.1
          replace hI := hI.2
          have f4 := hide hI.1
          replace hI := hI.2
          have f5 := hide hI.1
          replace hI := hI.2
          have f6 := hide hI.1
          replace hI := hI.2
          have f7 := hide hI.1
          replace hI := hI.2
          have f8 := hide hI.1
          replace hI := hI.2
          have f9 := hide hI.1
          replace hI := hI.2
          have f10 := hide hI.1
          replace hI := hI.2
          have f11 := hide hI.1
          replace hI := hI.2
          have f12 := hide hI.1
          replace hI := hI.2
          have f13 := hide hI.1
          replace hI := hI.2
          have f14 := hide hI.1
          replace hI := hI.2
          have f15 := hide hI
          clear hI
          have r00 := hG.size
          obtain rfl := f3.out (hD.on 3 (by kernel_rfl))
          try simp only [puts, Act.put, List.setIfInBounds_toArray, List.set_cons_zero, List.set_cons_succ]
          try go_simp
          exact hK.out _ _ _ (by simp only [puts, Act.put, List.setIfInBounds_toArray, List.set_cons_zero, List.set_cons_succ] <;> rfl) ⟨hG, (fun h => f0.out h), (fun h => f1.out h), (fun h => f2.out h), (fun h => f3.out h), (fun _ => rfl), (fun h => f5.out h), (fun h => f6.out h), (fun h => f7.out h), (fun h => f8.out h), (fun h => f9.out h), (fun h => f10.out h), (fun h => f11.out h), (fun h => f12.out h), (fun h => f13.out h), (fun h => f14.out h), (fun h => f15.out h)⟩
        · intro L vs W hlen hL hD hI K hK
          obtain ⟨x0, x1, x2, x3, x4, x5, x6, x7, x8, x9, x10, x11, x12, x13, x14, x15, rfl⟩ := len16 hlen
          have hG := hI.1
          replace hI := hI.2
          have f0 := hide hI.1
          replace hI := hI.2
          have f1 := hide hI.1
          replace hI := hI.2
          have f2 := hide hI.1
          replace hI := hI.2
          have f3 := hide hI.1
          replace hI := hI.2
          have f4 := hide hI.1
          replace hI := hI.2
          have f5 := hide hI.1
          replace hI := hI.2
          have f6 := hide hI.1
          replace hI := hI.2
          have f7 := hide hI.1
          replace hI := hI.2
          have f8 := hide hI.1
          replace hI := hI.2
          have f9 := hide hI.1
          replace hI := hI.2
          have f10 := hide hI.1
          replace hI := hI.2
          have f11 := hide hI.1
          replace hI := hI.2
          have f12 := hide hI.1
          replace hI := hI.2
          have f13 := hide hI.1
          replace hI := hI.2
          have f14 := hide hI.1
          replace hI := hI.2
          have f15 := hide hI
          clear hI
          have r00 := hG.size
          try simp only [puts, Act.put, List.setIfInBounds_toArray, List.set_cons_zero, List.set_cons_succ]
          try go_simp
          exact hK.out _ _ _ (by simp only [puts, Act.put, List.setIfInBounds_toArray, List.set_cons_zero, List.set_cons_succ] <;> rfl) ⟨hG, (fun h => f0.out h), (fun h => f1.out h), (fun h => f2.out h), (fun h => f3.out h), (fun h => f4.out h), (fun _ => rfl), (fun h => f6.out h), (fun h => f7.out h), (fun h => f8.out h), (fun h => f9.out h), (fun h => f10.out h), (fun h => f11.out h), (fun h => f12.out h), (fun h => f13.out h), (fun h => f14.out h), (fun h => f15.out h)⟩
        · intro L vs W hlen hL hD hI K hK
          obtain ⟨x0, x1, x2, x3, x4, x5, x6, x7, x8, x9, x10, x11, x12, x13, x14, x15, rfl⟩ := len16 hlen
          have hG := hI.1
          replace hI := hI.2
          have f0 := hide hI.1
          replace hI := hI.2
          have f1 := hide hI.1
          replace hI := hI.2
          have f2 := hide hI.1
          replace hI := hI.2
          have f3 := hide hI.1
          replace hI := hI.2
          have f4 := hide hI.1
          replace hI := hI.2
          have f5 := hide hI.1
          replace hI := hI.2
          have f6 := hide hI.1
          replace hI := hI.2
          have f7 := hide hI.1
          replace hI := hI.2
          have f8 := hide hI.1
          replace hI := hI.2
          have f9 := hide hI.1
          replace hI := hI.2
          have f10 := hide hI.1
          replace hI := hI.2
          have f11 := hide hI.1
          replace hI := hI.2
          have f12 := hide hI.1
          replace hI := hI.2
          have f13 := hide hI.1
          replace hI := hI.2
          have f14 := hide hI.1
          replace hI := hI.2
          have f15 := hide hI
          clear hI
          have r00 := hG.size
          obtain rfl := f5.out (hD.on 5 (by kernel_rfl))
          try simp only [puts, Act.put, List.setIfInBounds_toArray, List.set_cons_zero, List.set_cons_succ]
          have r0 := keep hG t0
          go_simp
          exact hK.out _ _ _ (by simp only [puts, Act.put, List.setIfInBounds_toArray, List.set_cons_zero, List.set_cons_succ] <;> rfl) ⟨hG, (fun h => f0.out h), (fun h => f1.out h), (fun h => f2.out h), (fun h => f3.out h), (fun h => f4.out h), (fun h => f5.out h), (fun _ => rfl), (fun h => f7.out h), (fun h => f8.out h), (fun h => f9.out h), (fun h => f10.out h), (fun h => f11.out h), (fun h => f12.out h), (fun h => f13.out h), (fun h => f14.out h), (fun h => f15.out h)⟩
        · intro L vs W hlen hL hD hI K hK
          obtain ⟨x0, x1, x2, x3, x4, x5, x6, x7, x8, x9, x10, x11, x12, x13, x14, x15, rfl⟩ := len16 hlen
          have hG := hI.1
          replace hI := hI.2
          have f0 := hide hI.1
          replace hI := hI.2
          have f1 := hide hI.1
          replace hI := hI.2
          have f2 := hide hI.1
          replace hI := hI.2
          have f3 := hide hI.1
          replace hI := hI.2
          have f4 := hide hI.1
          replace hI := hI.2
          have f5 := hide hI.1
          replace hI := hI.2
          have f6 := hide hI.1
          replace hI := hI.2
          have f7 := hide hI.1
          replace hI := hI.2
          have f8 := hide hI.1
          replace hI := hI.2
          have f9 := hide hI.1
          replace hI := hI.2
          have f10 := hide hI.1
          replace hI := hI.2
          have f11 := hide hI.1
          replace hI := hI.2
          have f12 := hide hI.1
          replace hI := hI.2
          have f13 := hide hI.1
          replace hI := hI.2
          have f14 := hide hI.1
          replace hI := hI.2
          have f15 := hide hI
          clear hI
          have r00 := hG.size
          try simp only [puts, Act.put, List.setIfInBounds_toArray, List.set_cons_zero, List.set_cons_succ]
          try go_simp
          exact hK.out _ _ _ (by simp only [puts, Act.put, List.setIfInBounds_toArray, List.set_cons_zero, List.set_cons_succ] <;> rfl) ⟨hG, (fun h => f0.out h), (fun h => f1.out h), (fun h => f2.out h), (fun h => f3.out h), (fun h => f4.out h), (fun h => f5.out h), (fun h => f6.out h), (fun _ => rfl), (fun h => f8.out h), (fun h => f9.out h), (fun h => f10.out h), (fun h => f11.out h), (fun h => f12.out h), (fun h => f13.out h), (fun h => f14.out h), (fun h => f15.out h)⟩
        · intro L vs W hlen hL hD hI K hK
          obtain ⟨x0, x1, x2, x3, x4, x5, x6, x7, x8, x9, x10, x11, x12, x13, x14, x15, rfl⟩ := len16 hlen
          have hG := hI.1
          replace hI := hI.2
          have f0 := hide hI.1
          replace hI := hI.2
          have f1 := hide hI.1
          replace hI := hI.2
          have f2 := hide hI.1
          replace hI := hI.2
          have f3 := hide hI.1
          replace hI := hI.2
          have f4 := hide hI.1
          replace hI := hI.2
          have f5 := hide hI.1
          replace hI := hI.2
          have f6 := hide hI.1
          replace hI := hI.2
          have f7 := hide hI.1
          replace hI := hI.2
          have f8 := hide hI.1
          replace hI := hI.2
          have f9 := hide hI.1
          replace hI := hI.2
          have f10 := hide hI.1
          replace hI := hI.2
          have f11 := hide hI.1
          replace hI := hI.2
          have f12 := hide hI.1
          replace hI := hI.2
          have f13 := hide hI.1
          replace hI := hI.2
          have f14 := hide hI.1
          replace hI := hI.2
          have f15 := hide hI
          clear hI
          have r00 := hG.size
          obtain rfl := f7.out (hD.on 7 (by kernel_rfl))
          try simp only [puts, Act.put, List.setIfInBounds_toArray, List.set_cons_zero, List.set_cons_succ]
          have r0 := keep hG q1
          go_simp
          exact hK.out _ _ _ (by simp only [puts, Act.put, List.setIfInBounds_toArray, List.set_cons_zero, List.set_cons_succ] <;> rfl) ⟨hG, (fun h => f0.out h), (fun h => f1.out h), (fun h => f2.out h), (fun h => f3.out h), (fun h => f4.out h), (fun h => f5.out h), (fun h => f6.out h), (fun h => f7.out h), (fun _ => rfl), (fun h => f9.out h), (fun h => f10.out h), (fun h => f11.out h), (fun h => f12.out h), (fun h => f13.out h), (fun h => f14.out h), (fun h => f15.out h)⟩
        · intro L vs W hlen hL hD hI K hK
          obtain ⟨x0, x1, x2, x3, x4, x5, x6, x7, x8, x9, x10, x11, x12, x13, x14, x15, rfl⟩ := len16 hlen
          have hG := hI.1
          replace hI := hI.2
          have f0 := hide hI.1
          replace hI := hI.2
          have f1 := hide hI.1
          replace hI := hI.2
          have f2 := hide hI.1
          replace hI := hI.2
          have f3 := hide hI.1
          replace hI := hI.2
          have f4 := hide hI.1
          replace hI := hI.2
          have f5 := hide hI.1
          replace hI := hI.2
          have f6 := hide hI.1
          replace hI := hI.2
          have f7 := hide hI.1
          replace hI := hI.2
          have f8 := hide hI.1
          replace hI := hI.2
          have f9 := hide hI.1
          replace hI := hI.2
          have f10 := hide hI.1
          replace hI := hI.2
          have f11 := hide hI.1
          replace hI := hI.2
          have f12 := hide hI.1
          replace hI := hI.2
          have f13 := hide hI.1
          replace hI := hI.2
          have f14 := hide hI.1
          replace hI := hI.2
          have f15 := hide hI
          clear hI
          have r00 := hG.size
          obtain rfl := f6.out (hD.on 6 (by kernel_rfl))
          obtain rfl := f8.out (hD.on 8 (by kernel_rfl))
          try simp only [puts, Act.put, List.setIfInBounds_toArray, List.set_cons_zero, List.set_cons_succ]
          try go_simp
          exact hK.out _ _ _ (by simp only [puts, Act.put, List.setIfInBounds_toArray, List.set_cons_zero, List.set_cons_succ] <;> rfl) ⟨hG, (fun h => f0.out h), (fun h => f1.out h), (fun h => f2.out h), (fun h => f3.out h), (fun h => f4.out h), (fun h => f5.out h), (fun h => f6.out h), (fun h => f7.out h), (fun h => f8.out h), (fun _ => rfl), (fun h => f10.out h), (fun h => f11.out h), (fun h => f12.out h), (fun h => f13.out h), (fun h => f14.out h), (fun h => f15.out h)⟩
        · intro L vs W hlen hL hD hI K hK
          obtain ⟨x0, x1, x2, x3, x4, x5, x6, x7, x8, x9, x10, x11, x12, x13, x14, x15, rfl⟩ := len16 hlen
          have hG := hI.1
          replace hI := hI.2
          have f0 := hide hI.1
          replace hI := hI.2
          have f1 := hide hI.1
          replace hI := hI.2
          have f2 := hide hI.1
          replace hI := hI.2
          have f3 := hide hI.1
          replace hI := hI.2
          have f4 := hide hI.1
          replace hI := hI.2
          have f5 := hide hI.1
          replace hI := hI.2
          have f6 := hide hI.1
          replace hI := hI.2
          have f7 := hide hI.1
          replace hI := hI.2
          have f8 := hide hI.1
          replace hI := hI.2
          have f9 := hide hI.1
          replace hI := hI.2
          have f10 := hide hI.1
          replace hI := hI.2
          have f11 := hide hI.1
          replace hI := hI.2
          have f12 := hide hI.1
          replace hI := hI.2
          have f13 := hide hI.1
          replace hI := hI.2
          have f14 := hide hI.1
          replace hI := hI.2
          have f15 := hide hI
          clear hI
          have r00 := hG.size
          obtain rfl := f0.out (hD.on 0 (by kernel_rfl))
          obtain rfl := f4.out (hD.on 4 (by kernel_rfl))
          obtain rfl := f9.out (hD.on 9 (by kernel_rfl))
          try simp only [puts, Act.put, List.setIfInBounds_toArray, List.set_cons_zero, List.set_cons_succ]
          try go_simp
          refine (HWY.out _ hG).mono ?_
          rintro e W' ⟨wa, wn, wc, rfl, hw, hb⟩
          try go_simp
          exact hK.out _ _ _ (by simp only [puts, Act.put, List.setIfInBounds_toArray, List.set_cons_zero, List.set_cons_succ] <;> rfl) ⟨below2 hG hb, (fun h => f0.out h), (fun h => f1.out h), (fun h => f2.out h), (fun h => f3.out h), (fun h => f4.out h), (fun h => f5.out h), (fun h => f6.out h), (fun h => f7.out h), (fun h => f8.out h), (fun h => f9.out h), (fun _ => ⟨wa, wn, wc, rfl, hw⟩), (fun h => (fun h => absurd (h.1.symm.trans hL) (by decide)) (f11.out h)), (fun h => (fun h => absurd (h.1.symm.trans hL) (by decide)) (f12.out h)), (fun h => f13.out h), (fun h => f14.out h), (fun h => f15.out h)⟩
        · intro L vs W hlen hL hD hI K hK
          obtain ⟨x0, x1, x2, x3, x4, x5, x6, x7, x8, x9, x10, x11, x12, x13, x14, x15, rfl⟩ := len16 hlen
          have hG := hI.1
          replace hI := hI.2
          have f0 := hide hI.1
          replace hI := hI.2
          have f1 := hide hI.1
          replace hI := hI.2
          have f2 := hide hI.1
          replace hI := hI.2
          have f3 := hide hI.1
          replace hI := hI.2
          have f4 := hide hI.1
          replace hI := hI.2
          have f5 := hide hI.1
          replace hI := hI.2
          have f6 := hide hI.1
          replace hI := hI.2
          have f7 := hide hI.1
          replace hI := hI.2
          have f8 := hide hI.1
          replace hI := hI.2
          have f9 := hide hI.1
          replace hI := hI.2
          have f10 := hide hI.1
          replace hI := hI.2
          have f11 := hide hI.1
          replace hI := hI.2
          have f12 := hide hI.1
          replace hI := hI.2
          have f13 := hide hI.1
          replace hI := hI.2
          have f14 := hide hI.1
          replace hI := hI.2
          have f15 := hide hI
          clear hI
          have r00 := hG.size
          have g10 := f10.out (hD.on 10 (by kernel_rfl))
          try simp only [puts, Act.put, List.setIfInBounds_toArray, List.set_cons_zero, List.set_cons_succ]
          obtain ⟨wa, wn, wc, rfl, -⟩ := g10
          go_simp
          exact hK.out _ _ _ (by simp only [puts, Act.put, List.setIfInBounds_toArray, List.set_cons_zero, List.set_cons_succ] <;> rfl) ⟨hG, (fun h => f0.out h), (fun h => f1.out h), (fun h => f2.out h), (fun h => f3.out h), (fun h => f4.out h), (fun h => f5.out h), (fun h => f6.out h), (fun h => f7.out h), (fun h => f8.out h), (fun h => f9.out h), (fun h => f10.out h), (fun _ => ⟨hD.on 10 (by kernel_rfl), rfl⟩), (fun h => f12.out h), (fun h => f13.out h), (fun h => f14.out h), (fun h => f15.out h)⟩
        · intro L vs W hlen hL hD hI K hK
          obtain ⟨x0, x1, x2, x3, x4, x5, x6, x7, x8, x9, x10, x11, x12, x13, x14, x15, rfl⟩ := len16 hlen
          have hG := hI.1
          replace hI := hI.2
          have f0 := hide hI.1
          replace hI := hI.2
          have f1 := hide hI.1
          replace hI := hI.2
          have f2 := hide hI.1
          replace hI := hI.2
          have f3 := hide hI.1
          replace hI := hI.2
          have f4 := hide hI.1
          replace hI := hI.2
          have f5 := hide hI.1
          replace hI := hI.2
          have f6 := hide hI.1
          replace hI := hI.2
          have f7 := hide hI.1
          replace hI := hI.2
          have f8 := hide hI.1
          replace hI := hI.2
          have f9 := hide hI.1
          replace hI := hI.2
          have f10 := hide hI.1
          replace hI := hI.2
          have f11 := hide hI.1
          replace hI := hI.2
          have f12 := hide hI.1
          replace hI := hI.2
          have f13 := hide hI.1
          replace hI := hI.2
          have f14 := hide hI.1
          replace hI := hI.2
          have f15 := hide hI
          clear hI
          have r00 := hG.size
          have g11 := f11.out (hD.on 11 (by kernel_rfl))
          try simp only [puts, Act.put, List.setIfInBounds_toArray, List.set_cons_zero, List.set_cons_succ]
          have q6 := g11.1
          obtain rfl := g11.2
          have g10 := f10.out q6
          obtain ⟨wa, wn, wc, rfl, -⟩ := g10
          go_simp
          exact hK.out _ _ _ (by simp only [puts, Act.put, List.setIfInBounds_toArray, List.set_cons_zero, List.set_cons_succ] <;> rfl) ⟨hG, (fun h => f0.out h), (fun h => f1.out h), (fun h => f2.out h), (fun h => f3.out h), (fun h => f4.out h), (fun h => f5.out h), (fun h => f6.out h), (fun h => f7.out h), (fun h => f8.out h), (fun h => f9.out h), (fun h => f10.out h), (fun h => f11.out h), (fun _ => ⟨q6, rfl⟩), (fun h => f13.out h), (fun h => (fun h => absurd (h.1.symm.trans hL) (by decide)) (f14.out h)), (fun h => f15.out h)⟩
        · intro L vs W hlen hL hD hI K hK
          obtain ⟨x0, x1, x2, x3, x4, x5, x6, x7, x8, x9, x10, x11, x12, x13, x14, x15, rfl⟩ := len16 hlen
          have hG := hI.1
          replace hI := hI.2
          have f0 := hide hI.1
          replace hI := hI.2
          have f1 := hide hI.1
          replace hI := hI.2
          have f2 := hide hI.1
          replace hI := hI.2
          have f3 := hide hI.1
          replace hI := hI.2
          have f4 := hide hI.1
          replace hI := hI.2
          have f5 := hide hI.1
          replace hI := hI.2
          have f6 := hide hI.1
          replace hI := hI.2
          have f7 := hide hI.1
          replace hI := hI.2
          have f8 := hide hI.1
          replace hI := hI.2
          have f9 := hide hI.1
          replace hI := hI.2
          have f10 := hide hI.1
          replace hI := hI.2
          have f11 := hide hI.1
          replace hI := hI.2
          have f12 := hide hI.1
          replace hI := hI.2
          have f13 := hide hI.1
          replace hI := hI.2
          have f14 := hide hI.1
          replace hI := hI.2
          have f15 := hide hI
          clear hI
          have r00 := hG.size
          have g11 := f11.out (hD.on 11 (by kernel_rfl))
          try simp only [puts, Act.put, List.setIfInBounds_toArray, List.set_cons_zero, List.set_cons_succ]
          have q6 := g11.1
          obtain rfl := g11.2
          have g10 := f10.out q6
          obtain ⟨wa, wn, wc, rfl, -⟩ := g10
          go_simp
          exact hK.out _ _ _ (by simp only [puts, Act.put, List.setIfInBounds_toArray, List.set_cons_zero, List.set_cons_succ] <;> rfl) ⟨hG, (fun h => f0.out h), (fun h => f1.out h), (fun h => f2.out h), (fun h => f3.out h), (fun h => f4.out h), (fun h => f5.out h), (fun h => f6.out h), (fun h => f7.out h), (fun h => f8.out h), (fun h => f9.out h), (fun h => f10.out h), (fun h => f11.out h), (fun h => f12.out h), (fun _ => rfl), (fun h => f14.out h), (fun h => f15.out h)⟩
        · intro L vs W hlen hL hD hI K hK
          obtain ⟨x0, x1, x2, x3, x4, x5, x6, x7, x8, x9, x10, x11, x12, x13, x14, x15, rfl⟩ := len16 hlen
          have hG := hI.1
          replace hI := hI.2
          have f0 := hide hI.1
          replace hI := hI.2
          have f1 := hide hI.1
          replace hI := hI.2
          have f2 := hide hI.1
          replace hI := hI.2
          have f3 := hide hI.1
          replace hI := hI.2
          have f4 := hide hI.1
          replace hI := hI.2
          have f5 := hide hI.1
          replace hI := hI.2
          have f6 := hide hI.1
          replace hI := hI.2
          have f7 := hide hI.1
          replace hI := hI.2
          have f8 := hide hI.1
          replace hI := hI.2
          have f9 := hide hI.1
          replace hI := hI.2
          have f10 := hide hI.1
          replace hI := hI.2
          have f11 := hide hI.1
          replace hI := hI.2
          have f12 := hide hI.1
          replace hI := hI.2
          have f13 := hide hI.1
          replace hI := hI.2
          have f14 := hide hI.1
          replace hI := hI.2
          have f15 := hide hI
          clear hI
          have r00 := hG.size
          have g12 := f12.out (hD.on 12 (by kernel_rfl))
          try simp only [puts, Act.put, List.setIfInBounds_toArray, List.set_cons_zero, List.set_cons_succ]
          clear g12
          go_simp
          exact hK.out _ _ _ (by simp only [puts, Act.put, List.setIfInBounds_toArray, List.set_cons_zero, List.set_cons_succ] <;> rfl) ⟨hG, (fun h => f0.out h), (fun h => f1.out h), (fun h => f2.out h), (fun h => f3.out h), (fun h => f4.out h), (fun h => f5.out h), (fun h => f6.out h), (fun h => f7.out h), (fun h => f8.out h), (fun h => f9.out h), (fun h => f10.out h), (fun h => f11.out h), (fun h => f12.out h), (fun h => f13.out h), (fun _ => ⟨hD.on 12 (by kernel_rfl), rfl⟩), (fun h => f15.out h)⟩
        · intro L vs W hlen hL hD hI K hK
          obtain ⟨x0, x1, x2, x3, x4, x5, x6, x7, x8, x9, x10, x11, x12, x13, x14, x15, rfl⟩ := len16 hlen
          have hG := hI.1
          replace hI := hI.2
          have f0 := hide hI.1
          replace hI := hI.2
          have f1 := hide hI.1
          replace hI := hI.2
          have f2 := hide hI.1
          replace hI := hI.2
          have f3 := hide hI.1
          replace hI := hI.2
          have f4 := hide hI.1
          replace hI := hI.2
          have f5 := hide hI.1
          replace hI := hI.2
          have f6 := hide hI.1
          replace hI := hI.2
          have f7 := hide hI.1
          replace hI := hI.2
          have f8 := hide hI.1
          replace hI := hI.2
          have f9 := hide hI.1
          replace hI := hI.2
          have f10 := hide hI.1
          replace hI := hI.2
          have f11 := hide hI.1
          replace hI := hI.2
          have f12 := hide hI.1
          replace hI := hI.2
          have f13 := hide hI.1
          replace hI := hI.2
          have f14 := hide hI.1
          replace hI := hI.2
          have f15 := hide hI
          clear hI
          have r00 := hG.size
          obtain rfl := f13.out (hD.on 13 (by kernel_rfl))
          try simp only [puts, Act.put, List.setIfInBounds_toArray, List.set_cons_zero, List.set_cons_succ]
          try go_simp
          exact hK.out _ _ _ (by simp only [puts, Act.put, List.setIfInBounds_toArray, List.set_cons_zero, List.set_cons_succ] <;> rfl) ⟨hG, (fun h => f0.out h), (fun h => f1.out h), (fun h => f2.out h), (fun h => f3.out h), (fun h => f4.out h), (fun h => f5.out h), (fun h => f6.out h), (fun h => f7.out h), (fun h => f8.out h), (fun h => f9.out h), (fun h => f10.out h), (fun h => f11.out h), (fun h => f12.out h), (fun h => f13.out h), (fun h => f14.out h), (fun _ => rfl)⟩
      intro L vs W hlen hall hI
      obtain ⟨x0, x1, x2, x3, x4, x5, x6, x7, x8, x9, x10, x11, x12, x13, x14, x15, rfl⟩ := len16 hlen
      have hG := hI.1
      replace hI := hI.2
      have f0 := hide hI.1
      replace hI := hI.2
      have f1 := hide hI.1
      replace hI := hI.2
      have f2 := hide hI.1
      replace hI := hI.2
      have f3 := hide hI.1
      replace hI := hI.2
      have f4 := hide hI.1
      replace hI := hI.2
      have f5 := hide hI.1
      replace hI := hI.2
      have f6 := hide hI.1
      replace hI := hI.2
      have f7 := hide hI.1
      replace hI := hI.2
      have f8 := hide hI.1
      replace hI := hI.2
      have f9 := hide hI.1
      replace hI := hI.2
      have f10 := hide hI.1
      replace hI := hI.2
      have f11 := hide hI.1
      replace hI := hI.2
      have f12 := hide hI.1
      replace hI := hI.2
      have f13 := hide hI.1
      replace hI := hI.2
      have f14 := hide hI.1
      replace hI := hI.2
      have f15 := hide hI
      clear hI
      obtain rfl := f0.out (hall 0 (by decide))
      obtain rfl := f1.out (hall 1 (by decide))
      obtain rfl := f2.out (hall 2 (by decide))
      obtain rfl := f3.out (hall 3 (by decide))
      obtain rfl := f4.out (hall 4 (by decide))
      obtain rfl := f5.out (hall 5 (by decide))
      obtain rfl := f6.out (hall 6 (by decide))
      obtain rfl := f7.out (hall 7 (by decide))
      obtain rfl := f8.out (hall 8 (by decide))
      obtain rfl := f9.out (hall 9 (by decide))
      have g10 := f10.out (hall 10 (by decide))
      have g11 := f11.out (hall 11 (by decide))
      have g12 := f12.out (hall 12 (by decide))
      obtain rfl := f13.out (hall 13 (by decide))
      have g14 := f14.out (hall 14 (by decide))
      obtain rfl := f15.out (hall 15 (by decide))
      have hal := hide hall
      clear hall f0 f1 f2 f3 f4 f5 f6 f7 f8 f9 f10 f11 f12 f13 f14 f15
      try simp only [puts, Act.put, List.setIfInBounds_toArray, List.set_cons_zero, List.set_cons_succ]
      obtain ⟨wa, wn, wc, rfl, hwn⟩ := g10
      obtain ⟨-, rfl⟩ := g11
      obtain ⟨-, e12⟩ := g12
      obtain ⟨-, rfl⟩ := g14
      obtain rfl : Value.slice wa wn wc = x14 := by injection e12 with e12; simpa using e12
      have HI := hide (indexl_any (natsJ (bitsOf S)) th _ W (IntsAt.below hG HU8.out))
      have HWW := hide (below2 HW8.out hG)
      have t0 := keep hG t0
      have q1 := keep hG q1
      generalize idxI (natsJ (bitsOf S)) th = ix at HI HIDX
      generalize (natsJ (bitsOf S)).length = hn8 at *
      have HWN := hide hwn
      have hix := HIDX.out
      clear hG hal e12 hwn t1 t2 hw8
      cases ANS
      · go_wp2_with fail
        refine HI.out.mono ?_
        rintro e w9 ⟨rfl, hw9⟩
        go_wp2_with fail
        go_ret
        exact ⟨rfl, below2 HWW.out hw9⟩
      · have h1 : decide (0 < wn) = true := decide_eq_true (HWN.out rfl)
        have h2 : decide ((0 : Int) < (wn : Int)) = true := decide_eq_true (by have := HWN.out rfl; omega)
        go_wp2_with fail
        refine HI.out.mono ?_
        rintro e w9 ⟨rfl, hw9⟩
        go_wp2_with fail
        go_ret
        exact ⟨rfl, below2 HWW.out hw9⟩
end Go.Proofs.YtdjldidfnddpmaaGreatDoor
/- Reading arguments as data, and what a law that only reads owes at its end. No condition. -/
namespace Go.Proofs.YtdjldidfnddpmaaGreatDoor
open Go.ChangeShapes Go.WideShapes Go.ChangeAt Go.RowKit

section
variable {H : Type} {enc : TypeId × Value → H} {P : Program}
theorem trodAll_stays (hl : laidOutB P = true) {W W' : World} (hb : Below W.heap.size W W') :
    ∀ {ts : List TypeId} {vs : List Value} {ds : List (DataW H)} {ps : List MemPlace}, ts.all (fun t => P.readableRec t && decide (t < P.types.size)) = true → DataW.TrodAll enc P W 0 (fun _ => true) true ts vs ds ps → (∀ x ∈ ps, x.block < W.heap.size) →
      DataW.TrodAll enc P W' 0 (fun b => decide (b < W.heap.size)) true ts vs ds ps
  | [], [], [], _, _, h, _ => h
  | t :: ts, v :: vs, d :: ds, ps, ht, h, hlt => by
    obtain ⟨p, q, h1, h2, rfl⟩ := h
    rw [List.all_cons, Bool.and_eq_true, Bool.and_eq_true, decide_eq_true_eq] at ht
    exact ⟨p, q, Below.trod hl ht.1.1 ht.1.2 h1 hb (fun x hx => hlt x (List.mem_append_left _ hx)), trodAll_stays hl hb ht.2 h2 (fun x hx => hlt x (List.mem_append_right _ hx)), rfl⟩
  | [], _ :: _, _, _, _, h, _ => h.elim
  | [], [], _ :: _, _, _, h, _ => h.elim
  | _ :: _, [], _, _, _, h, _ => h.elim
  | _ :: _, _ :: _, [], _, _, h, _ => h.elim
/-- what a law that has turned nothing owes -/
theorem post_law {f : Func} {s : ChangeSpec} {W W' : World} {args : Array Value} {ds : List (DataW H)} {before : List MemPlace} {tb : TypeId} (hl : laidOutB P = true)
    (hts : f.params.toList.all (fun t => P.readableRec t && decide (t < P.types.size)) = true) (hvars : s.vars = []) (hres : f.resultTypes = #[tb]) (hbool : P.underlying tb = some .bool)
    (hspec : s.fn H (ds ++ []) = { results := [.lit (.bool true)], args := ds }) (hW : DataW.Whole enc P f.params.toList s.vars false W args.toList ds [] before) (hb : Below W.heap.size W W') :
    s.post enc P f false true false false W args (.bool true) W' := by
  have hlt : ∀ x ∈ before, x.block < W.heap.size := fun x hx => by simpa using hW.lt x hx
  obtain ⟨p, q, h1, h2, rfl, h4, h5⟩ := id hW
  rw [hvars] at h2
  have hq : q = [] := h2
  subst hq
  refine ⟨ds, [], p ++ [], [], p, [], hW, ?_, ?_, ?_, hb.frame _, fun h => by cases h⟩
  · rw [hres, hspec]
    exact ⟨[], [], ⟨1, by simp [DataW.trod, hbool, Value.cells]⟩, rfl, rfl⟩
  · rw [hspec]
    exact trodAll_stays hl hb hts h1 (fun x hx => hlt x (by simpa using hx))
  · rw [hspec, hvars]; rfl
end

section
variable {H : Type} {enc : TypeId × Value → H} {P : Program} {w : World} {base : Nat} {sp : Nat → Bool} {held : Bool}
/-- a slice whose elements' cells (k each) R reads -/
def SliceR {α : Type} (k : Nat) (R : List Value → α → Prop) (d : α) (c : Addr → Option Value) (v : Value) (l : List α) : Prop :=
  ∃ a n, v = .slice a l.length n ∧ l.length ≤ n ∧ n ≤ 9223372036854775807 ∧ ∀ i, i < l.length → ∃ b o cs, a = some ⟨b, o, none⟩ ∧ cs.length = k ∧ R cs (l.getD i d) ∧ ∀ j, j < k → c ⟨b, o + i * k + j, none⟩ = cs[j]?
theorem add_addr {b o : Nat} (k : Nat) : (⟨b, o, none⟩ : Addr).add k = ⟨b, o + k, none⟩ := by cases k <;> simp [Addr.add]
theorem trod_sliceR {α : Type} {k : Nat} {R : List Value → α → Prop} (d : α) {t e : TypeId} {fuel : Nat} {cs : List Value} {x : DataW H × List MemPlace} (hk : 0 < k) (ht : P.underlying t = some (.slice e)) (hc : P.cellsOf e = k)
    (he : ∀ n y cs, cs.length = k → DataW.trod enc P w base sp held n e cs = some y → ∃ x, R cs x) (h : DataW.trod enc P w base sp held fuel t cs = some x) : ∃ v l, cs = [v] ∧ SliceR k R d w.cell? v l := by
  rcases DataW.trod_slice ht h with ⟨rfl, -⟩ | ⟨a, len, cap, elems, rest, n, -, rfl, -, hb, hl, hm, hlen, hel, -, -⟩
  · exact ⟨_, [], rfl, none, 0, rfl, Nat.le_refl _, by omega, fun i hi => by simp at hi⟩
  · have each : ∀ i : Nat, ∃ (q : List Value × α), i < len → q.1.length = k ∧ R q.1 q.2 ∧ ∀ j, j < k → w.cell? ((a.add (i * k)).add j) = q.1[j]? := fun i => by
      by_cases hi : i < len
      · have h1 := hel i hi
        rw [List.getElem?_eq_getElem (by omega), hc, Option.bind_eq_some_iff] at h1
        obtain ⟨cs', h2, h3⟩ := h1
        obtain ⟨-, h4, h5⟩ := World.cells?_some h2
        obtain ⟨y, hy⟩ := he _ _ _ h4 h3
        exact ⟨(cs', y), fun _ => ⟨h4, hy, h5⟩⟩
      · exact ⟨([], d), fun h => absurd h hi⟩
    obtain ⟨f, hf⟩ := Classical.axiomOfChoice each
    have hget : ∀ i, i < len → ((List.range len).map fun i => (f i).2).getD i d = (f i).2 := fun i hi => by
      rw [List.getD_eq_getElem?_getD, List.getElem?_map, List.getElem?_range hi]; rfl
    refine ⟨_, (List.range len).map fun i => (f i).2, rfl, some a, cap, by simp, by simpa using hl, by simpa [maxLen] using hm, fun i hi => ?_⟩
    have hi' : i < len := by simpa using hi
    obtain ⟨g1, g2, g3⟩ := hf i hi'
    obtain ⟨b, o, s⟩ := a
    have hs : s = none := by
      obtain ⟨z1, -, z3⟩ := hf 0 (by omega)
      have := z3 0 hk
      rw [List.getElem?_eq_getElem (by omega), Nat.zero_mul] at this
      have h8 := World.cell?_spot this
      simpa [Addr.add] using h8
    subst hs
    refine ⟨b, o, (f i).1, rfl, g1, by rw [hget i hi']; exact g2, fun j hj => ?_⟩
    have := g3 j hj
    rwa [add_addr, add_addr] at this
theorem trod_i64 {e : TypeId} (he : P.underlying e = some (.int .i64)) {n : Nat} {y : DataW H × List MemPlace} {cs : List Value} (h : DataW.trod enc P w base sp held n e cs = some y) : ∃ x : Int, cs = [.int .i64 x] ∧ -9223372036854775808 ≤ x ∧ x ≤ 9223372036854775807 := by
  obtain ⟨x, h1, -, h3⟩ := DataW.trod_int he h
  exact ⟨x, h1, bounds_i64 h3⟩
theorem trod_arr {t e : TypeId} {n : Nat} (ht : P.underlying t = some (.array n e)) (he : P.underlying e = some (.int .i64)) (hc : P.cellsOf e = 1) (hn : P.cellsOf t = n) {m : Nat} {y : DataW H × List MemPlace} {cs : List Value} (h : DataW.trod enc P w base sp held m t cs = some y) :
    ∃ l : List Int, l.length = n ∧ cs = l.map (Value.int .i64) ∧ ∀ x ∈ l, -9223372036854775808 ≤ x ∧ x ≤ 9223372036854775807 := by
  obtain ⟨xs, m', -, -, h1, h2, h3⟩ := DataW.trod_array ht h
  rw [hn] at h1
  have each : ∀ i : Nat, ∃ x : Int, i < n → cs[i]? = some (.int .i64 x) ∧ -9223372036854775808 ≤ x ∧ x ≤ 9223372036854775807 := fun i => by
    by_cases hi : i < n
    · have h4 := h3 i hi
      rw [List.getElem?_eq_getElem (by omega), hc, Nat.mul_one] at h4
      obtain ⟨x, h5, h6⟩ := trod_i64 he h4
      refine ⟨x, fun _ => ⟨?_, h6⟩⟩
      have h7 : ((cs.drop i).take 1)[0]? = some (.int .i64 x) := by rw [h5]; rfl
      rwa [List.getElem?_take_of_lt (by omega), List.getElem?_drop, Nat.add_zero] at h7
    · exact ⟨0, fun h => absurd h hi⟩
  obtain ⟨f, hf⟩ := Classical.axiomOfChoice each
  refine ⟨(List.range n).map f, by simp, ?_, fun x hx => ?_⟩
  · refine List.ext_getElem? fun i => ?_
    by_cases hi : i < n
    · rw [(hf i hi).1, List.getElem?_map, List.getElem?_map, List.getElem?_range hi]; rfl
    · rw [List.getElem?_eq_none (by omega), List.getElem?_eq_none (by simp; omega)]
  · obtain ⟨i, hi, rfl⟩ := List.mem_map.1 hx
    exact (hf i (List.mem_range.1 hi)).2
/-- an array by value -/
theorem open_arr64 {r : Reach} {b0 : Nat} {t e : TypeId} {n : Nat} (ht : P.underlying t = some (.array n e)) (he : P.underlying e = some (.int .i64)) (hc : P.cellsOf e = 1) (hn : P.cellsOf t = n) {v : Value} {d : DataW H} {ps : List MemPlace}
    (hv : Value.okWide P w r b0 t v) (h : DataW.Trod enc P w base sp held t v d ps) : ∃ l : List Int, l.length = n ∧ v = .agg (l.map (Value.int .i64)).toArray ∧ ∀ x ∈ l, -9223372036854775808 ≤ x ∧ x ≤ 9223372036854775807 := by
  obtain ⟨cs, rfl, -⟩ : ∃ cs, v = .agg cs ∧ cs.size = P.cellsOf t := by
    simp only [Value.okWide, ht] at hv
    obtain ⟨cs, h1, h2, -⟩ := hv
    exact ⟨cs, h1, h2⟩
  obtain ⟨m, hm⟩ := h
  obtain ⟨l, h1, h2, h3⟩ := trod_arr ht he hc hn hm
  refine ⟨l, h1, ?_, h3⟩
  rw [← h2]; simp [Value.cells]
theorem open_sliceR {α : Type} {k : Nat} {R : List Value → α → Prop} (d : α) {r : Reach} {b0 : Nat} {t e : TypeId} (hk : 0 < k) (ht : P.underlying t = some (.slice e)) (hc : P.cellsOf e = k)
    (he : ∀ n y cs, cs.length = k → DataW.trod enc P w base sp held n e cs = some y → ∃ x, R cs x) {v : Value} {d' : DataW H} {ps : List MemPlace} (hv : Value.okWide P w r b0 t v) (h : DataW.Trod enc P w base sp held t v d' ps) :
    ∃ l, SliceR k R d w.cell? v l := by
  obtain ⟨a, len, cap, rfl⟩ := okWide_slice ht hv
  obtain ⟨m, hm⟩ := h
  obtain ⟨v', l, h1, h2⟩ := trod_sliceR d hk ht hc he hm
  have e : v' = .slice a len cap := by simp [Value.cells] at h1; exact h1.symm
  exact ⟨l, e ▸ h2⟩
end
end Go.Proofs.YtdjldidfnddpmaaGreatDoor
/- Arguments of the laws of chapter 31, opened. No condition. -/
namespace Go.Proofs.YtdjldidfnddpmaaGreatDoor
open Go.ChangeShapes Go.WideShapes Go.ChangeAt Go.RowKit

theorem Tryz.own : ownKnob Tryz.prog.godebug = none := by kernel_rfl
theorem Tryz.laidOut : laidOutB Tryz.prog = true := by kernel_rfl
theorem Tryz.cells3 : Tryz.prog.cellsOf 3 = 1 := by kernel_rfl
theorem Tryz.cells4 : Tryz.prog.cellsOf 4 = 1 := by kernel_rfl
theorem Tryz.cells72 : Tryz.prog.cellsOf 72 = 6 := by kernel_rfl
theorem Tryz.cells26 : Tryz.prog.cellsOf 26 = 4 := by kernel_rfl
theorem Tryz.cells76 : Tryz.prog.cellsOf 76 = 3 := by kernel_rfl
set_option maxRecDepth 100000 in
theorem Tryz.cells25 : Tryz.prog.cellsOf 25 = 3 := by kernel_rfl
set_option maxRecDepth 100000 in
theorem Tryz.cells66 : Tryz.prog.cellsOf 66 = 4 := by kernel_rfl
theorem Tryz.cells22 : Tryz.prog.cellsOf 22 = 1 := by kernel_rfl
theorem Tryz.cells23 : Tryz.prog.cellsOf 23 = 1 := by kernel_rfl
theorem rec_slice {α : Type} {f : α → List Value} {d : α} {k : Nat} {Q : α → Prop} {c : Addr → Option Value} {v : Value} {l : List α} (h : SliceR k (fun cs x => cs = f x ∧ Q x) d c v l) : RecIn f d k c v l ∧ ∀ x ∈ l, Q x := by
  obtain ⟨a, n, h1, h2, h3, h4⟩ := h
  refine ⟨⟨a, n, h1, h2, h3, fun i hi => ?_⟩, fun x hx => ?_⟩
  · obtain ⟨b, o, cs, e, hl, ⟨rfl, -⟩, hc⟩ := h4 i hi
    refine ⟨b, o, e, fun j u hu => ?_⟩
    have hj : j < k := by rw [← hl]; exact (List.getElem?_eq_some_iff.1 hu).1
    rw [hc j hj]; exact hu
  · obtain ⟨i, hi, rfl⟩ := List.getElem_of_mem hx
    obtain ⟨b, o, cs, e, -, ⟨-, h5⟩, -⟩ := h4 i hi
    rwa [List.getD_eq_getElem?_getD, List.getElem?_eq_getElem hi] at h5
theorem trod_fldW {H : Type} {enc : TypeId × Value → H} {w : World} {base : Nat} {sp : Nat → Bool} {held : Bool} {P : Program} {fs : Array Field} {t : TypeId} {fuel : Nat} {cs : List Value} {x : DataW H × List MemPlace} (ht : P.underlying t = some (.struct fs)) (h : DataW.trod enc P w base sp held fuel t cs = some x) (i : Nat) (f : Field) (hf : fs[i]? = some f) :
    ∃ n y, DataW.trod enc P w base sp held n f.type ((cs.drop f.offset).take (P.cellsOf f.type)) = some y := by
  obtain ⟨xs, n, -, -, -, hlen, h1⟩ := DataW.trod_struct ht h
  have hi : i < fs.size := by
    rcases Array.getElem?_eq_some_iff.1 hf with ⟨hi, -⟩; exact hi
  exact ⟨n, xs[i], by rw [h1 i f hf, List.getElem?_eq_getElem (by omega)]⟩
theorem takeW {cs : List Value} {k : Nat} {v : Value} (h : (cs.drop k).take 1 = [v]) : cs[k]? = some v := by
  have : ((cs.drop k).take 1)[0]? = some v := by rw [h]; rfl
  rwa [List.getElem?_take_of_lt (by omega), List.getElem?_drop, Nat.add_zero] at this
section
variable {H : Type} {enc : TypeId × Value → H} {w : World} {base : Nat} {sp : Nat → Bool} {held : Bool}
set_option maxRecDepth 100000 in
theorem open_i64 {r : Reach} {b0 : Nat} {v : Value} {d : DataW H} {ps : List MemPlace} (hv : Value.okWide Tryz.prog w r b0 3 v) (h : DataW.Trod enc Tryz.prog w base sp held 3 v d ps) :
    ∃ x : Int, v = .int .i64 x ∧ i64B x := by
  obtain ⟨n, h1, -, -, h4⟩ := open_int Tryz.underlying3 hv h
  exact ⟨n, h1, bounds_i64 h4⟩
set_option maxRecDepth 100000 in
theorem open_four {r : Reach} {b0 : Nat} {v : Value} {d : DataW H} {ps : List MemPlace} (hv : Value.okWide Tryz.prog w r b0 26 v) (h : DataW.Trod enc Tryz.prog w base sp held 26 v d ps) :
    ∃ a b c e : Int, v = .agg #[.int .i64 a, .int .i64 b, .int .i64 c, .int .i64 e] ∧ i64B a ∧ i64B b ∧ i64B c ∧ i64B e := by
  obtain ⟨l, h1, rfl, h3⟩ := open_arr64 Tryz.underlying26 Tryz.underlying3 Tryz.cells3 Tryz.cells26 hv h
  match l, h1 with
  | [a, b, c, e], _ => exact ⟨a, b, c, e, rfl, h3 a (by simp), h3 b (by simp), h3 c (by simp), h3 e (by simp)⟩
set_option maxRecDepth 100000 in
theorem trod_six {n : Nat} {y : DataW H × List MemPlace} {cs : List Value} (h : DataW.trod enc Tryz.prog w base sp held n 72 cs = some y) : ∃ x, cs = sixC x ∧ six64 x := by
  obtain ⟨l, h1, rfl, h3⟩ := trod_arr Tryz.underlying72 Tryz.underlying3 Tryz.cells3 Tryz.cells72 h
  match l, h1 with
  | [a, b, c, d, e, f], _ => exact ⟨⟨a, b, c, d, e, f⟩, rfl, h3 a (by simp), h3 b (by simp), h3 c (by simp), h3 d (by simp), h3 e (by simp), h3 f (by simp)⟩
set_option maxRecDepth 100000 in
theorem trod_tri {n : Nat} {y : DataW H × List MemPlace} {cs : List Value} (h : DataW.trod enc Tryz.prog w base sp held n 76 cs = some y) : ∃ x, cs = triC x ∧ tri64 x := by
  obtain ⟨l, h1, rfl, h3⟩ := trod_arr Tryz.underlying76 Tryz.underlying3 Tryz.cells3 Tryz.cells76 h
  match l, h1 with
  | [a, b, c], _ => exact ⟨(a, b, c), rfl, h3 a (by simp), h3 b (by simp), h3 c (by simp)⟩
set_option maxRecDepth 100000 in
theorem open_nums {r : Reach} {b0 : Nat} {v : Value} {d : DataW H} {ps : List MemPlace} (hv : Value.okWide Tryz.prog w r b0 25 v) (h : DataW.Trod enc Tryz.prog w base sp held 25 v d ps) :
    ∃ (x : NumsD) (xc xr xf : Value), v = .agg #[xc, xr, xf] ∧ NumsIn w.cell? xc xr xf x ∧ Nums64 x := by
  obtain ⟨cs, rfl, hsz⟩ : ∃ cs, v = .agg cs ∧ cs.size = Tryz.prog.cellsOf 25 := by
    simp only [Value.okWide, Tryz.underlying25] at hv
    obtain ⟨cs, h1, h2, -⟩ := hv
    exact ⟨cs, h1, h2⟩
  obtain ⟨m, hm⟩ := h
  rw [Tryz.cells25] at hsz
  obtain ⟨n0, y0, h0⟩ := trod_fldW Tryz.underlying25 hm 0 _ rfl
  obtain ⟨n1, y1, h1⟩ := trod_fldW Tryz.underlying25 hm 1 _ rfl
  obtain ⟨n2, y2, h2⟩ := trod_fldW Tryz.underlying25 hm 2 _ rfl
  obtain ⟨cv, cl, e0, hcs⟩ := trod_sliceR (R := fun cs x => cs = sixC x ∧ six64 x) six0 (by decide) Tryz.underlying22 Tryz.cells72 (fun n y cs hc hy => trod_six hy) h0
  obtain ⟨rv, rl, e1, hrs⟩ := trod_sliceR (R := fun cs x => cs = triC x ∧ tri64 x) (0, 0, 0) (by decide) Tryz.underlying23 Tryz.cells76 (fun n y cs hc hy => trod_tri hy) h1
  obtain ⟨fv, fl, e2, hfs⟩ := trod_sliceR (R := fun cs x => cs = sixC x ∧ six64 x) six0 (by decide) Tryz.underlying22 Tryz.cells72 (fun n y cs hc hy => trod_six hy) h2
  have g0 := takeW (by rw [← Tryz.cells22]; exact e0)
  have g1 := takeW (by rw [← Tryz.cells23]; exact e1)
  have g2 := takeW (by rw [← Tryz.cells22]; exact e2)
  obtain ⟨b0, b1, b2, hcs'⟩ : ∃ b0 b1 b2, cs.toList = [b0, b1, b2] := by
    match hh : cs.toList, (show cs.toList.length = 3 by simpa using hsz) with
    | [x, y, z], _ => exact ⟨_, _, _, rfl⟩
  simp only [Value.cells, hcs'] at g0 g1 g2
  simp at g0 g1 g2
  subst g0 g1 g2
  have k0 := rec_slice hcs
  have k1 := rec_slice hrs
  have k2 := rec_slice hfs
  refine ⟨⟨cl, rl, fl⟩, _, _, _, ?_, ⟨k0.1, k1.1, k2.1⟩, ⟨k0.2, k1.2, k2.2⟩⟩
  congr 1
  exact Array.ext' (by simpa using hcs')
set_option maxRecDepth 100000 in
theorem trod_find {n : Nat} {y : DataW H × List MemPlace} {cs : List Value} (hl : cs.length = 4) (h : DataW.trod enc Tryz.prog w base sp held n 66 cs = some y) : ∃ x, cs = findC x ∧ True := by
  obtain ⟨n0, y0, h0⟩ := trod_fldW Tryz.underlying66 h 0 _ rfl
  obtain ⟨n1, y1, h1⟩ := trod_fldW Tryz.underlying66 h 1 _ rfl
  obtain ⟨n2, y2, h2⟩ := trod_fldW Tryz.underlying66 h 2 _ rfl
  obtain ⟨n3, y3, h3⟩ := trod_fldW Tryz.underlying66 h 3 _ rfl
  obtain ⟨a0, e0, -⟩ := trod_i64 Tryz.underlying3 h0
  obtain ⟨a1, e1, -⟩ := DataW.trod_bool Tryz.underlying4 h1
  obtain ⟨a2, e2, -⟩ := trod_i64 Tryz.underlying3 h2
  obtain ⟨a3, e3, -⟩ := trod_i64 Tryz.underlying3 h3
  have g0 := takeW (by rw [← Tryz.cells3]; exact e0)
  have g1 := takeW (by rw [← Tryz.cells4]; exact e1)
  have g2 := takeW (by rw [← Tryz.cells3]; exact e2)
  have g3 := takeW (by rw [← Tryz.cells3]; exact e3)
  match cs, hl with
  | [b0, b1, b2, b3], _ =>
    simp at g0 g1 g2 g3
    subst g0 g1 g2 g3
    exact ⟨⟨a0, a1, a2, a3⟩, rfl, trivial⟩
set_option maxRecDepth 100000 in
theorem open_finds {r : Reach} {b0 : Nat} {v : Value} {d : DataW H} {ps : List MemPlace} (hv : Value.okWide Tryz.prog w r b0 52 v) (h : DataW.Trod enc Tryz.prog w base sp held 52 v d ps) : ∃ l, FindsIn w.cell? v l := by
  obtain ⟨l, hs⟩ := open_sliceR (R := fun cs x => cs = findC x ∧ True) find0 (by decide) Tryz.underlying52 Tryz.cells66 (fun n y cs hc hy => trod_find hc hy) hv h
  exact ⟨l, (rec_slice hs).1⟩
end
end Go.Proofs.YtdjldidfnddpmaaGreatDoor
/- What the tied row's condition gives: the tables of math/bits, in memory. No condition. -/
namespace Go.Proofs.YtdjldidfnddpmaaGreatDoor
open Go.ChangeShapes Go.WideShapes Go.ChangeAt Go.RowKit

theorem Tryz.cells141 : Tryz.prog.cellsOf 141 = 32 := by kernel_rfl
theorem Tryz.cells142 : Tryz.prog.cellsOf 142 = 64 := by kernel_rfl
theorem Tryz.cells5 : Tryz.prog.cellsOf 5 = 1 := by kernel_rfl
def laidL : List (String × DataW Unit) := [("math/bits.deBruijn32tab", Rows.laid_math_bits_deBruijn32tab), ("math/bits.deBruijn64tab", Rows.laid_math_bits_deBruijn64tab)]
theorem door_met (os : Os) (args : Array Value) : laidMet Tryz.prog laidL ((World.doorLaid Tryz.prog 33 os).forCall (fun _ _ => 0) ⟨#[], args, []⟩).memory :=
  laidMet_of_run' 8 (by kernel_rfl) (by kernel_rfl)
theorem g32 : Tryz.prog.globalNamed "math/bits.deBruijn32tab" = some 0 := by kernel_rfl
theorem g64 : Tryz.prog.globalNamed "math/bits.deBruijn64tab" = some 1 := by kernel_rfl
theorem t32g : (Tryz.prog.globals[0]?).map (·.type) = some 141 := by kernel_rfl
theorem t64g : (Tryz.prog.globals[1]?).map (·.type) = some 142 := by kernel_rfl
theorem gblk_of {W : World} {n : String} {g : Nat} {cs : Array Value} {vs : List Value} (hg : Tryz.prog.globalNamed n = some g) (h : W.var? Tryz.prog n = some cs) (hc : cs.toList = vs) : GBlk W g vs := by
  have hc' : cs = vs.toArray := by rw [← hc]
  subst hc'
  simp only [World.var?, hg, Option.bind_some] at h
  split at h
  · rename_i cs' t m hh
    cases h
    exact ⟨t, m, hh⟩
  · cases h
theorem glob_of_laid {W : World} (h : laidMet Tryz.prog laidL W) : Glob W := by
  obtain ⟨ps, ⟨g0, t0, cs0, f0, p0, q0, hg0, ht0, hv0, hd0, ⟨g1, t1, cs1, f1, p1, q1, hg1, ht1, hv1, hd1, -, -⟩, -⟩, -, -⟩ := h
  obtain rfl := Option.some.inj (g32.symm.trans hg0)
  obtain rfl := Option.some.inj (g64.symm.trans hg1)
  obtain rfl := Option.some.inj (t32g.symm.trans ht0)
  obtain rfl := Option.some.inj (t64g.symm.trans ht1)
  exact ⟨gblk_of g32 hv0 (Lib.cells_of_tab Tryz.underlying141 Tryz.underlying5 Tryz.cells5 Tryz.cells141 hd0), gblk_of g64 hv1 (Lib.cells_of_tab Tryz.underlying142 Tryz.underlying5 Tryz.cells5 Tryz.cells142 hd1)⟩
end Go.Proofs.YtdjldidfnddpmaaGreatDoor
namespace Go.Proofs.YtdjldidfnddpmaaGreatDoor
open Go.ChangeShapes Go.WideShapes Go.ChangeAt Go.RowKit

set_option maxRecDepth 100000 in
theorem justifies_lifted (os : Os) (started : os.Started) (H : Type) (enc : TypeId × Value → H) :
    ReturnsInHanded {} Tryz.checked os 3 .any (fun w args => (Rows.statuteJustifiesSpec.pre enc Tryz.prog Tryz.f3 Rows.statuteJustifiesRow.domain false w args ∧ laidMet Tryz.prog Rows.statuteJustifiesRow.laid w) ∧ sizedMet enc Tryz.prog Tryz.f3 (OpenSpec.ofChange Rows.statuteJustifiesSpec) false w args)
      (Rows.statuteJustifiesSpec.post enc Tryz.prog Tryz.f3 false true false false) := by
  refine returnsInHanded_of_change_and (C := Tryz.checked) (X := fun w _ => laidMet Tryz.prog Rows.statuteJustifiesRow.laid w) (fun _ _ _ hh h => h.of_heap hh) Tryz.own started (by kernel_rfl) Tryz.func3
    (ChangeSpec.witness_shaped (enc := enc) (C := Tryz.checked) (os := os) (X := fun w _ => laidMet Tryz.prog Rows.statuteJustifiesRow.laid w) false (World.doorLaid Tryz.prog 33 os) #[.agg #[.slice none 0 0, .slice none 0 0, .slice none 0 0], .agg #[.int .i64 0, .int .i64 0, .int .i64 0, .int .i64 0]] 8 rfl (World.shaped_of_RefB (by kernel_rfl) (by kernel_rfl)) (by kernel_rfl) (by kernel_rfl) (by kernel_rfl) (door_met os _)) ?_
  intro W base args ds gs before hval0 hW hcnd0 _ hL _
  have hval : ∀ (j : Nat) t v, Tryz.f3.params[j]? = some t → args[j]? = some v → Value.okWide Tryz.prog W .any base t v := hval0
  have hW' := hW
  obtain ⟨p, q, hA0, hV, rfl, hfz, hnd⟩ := hW
  have hA : DataW.TrodAll enc Tryz.prog W 0 (fun _ => true) true Tryz.f3.params.toList args.toList ds p := hA0
  rw [Tryz.params3] at hA hval
  obtain ⟨v0, as0, d0, ds0, p0, q0, e0, rfl, rfl, h0, hA⟩ := trodAll_cons hA
  obtain ⟨v1, as1, d1, ds1, p1, q1, rfl, rfl, rfl, h1, hA⟩ := trodAll_cons hA
  obtain ⟨rfl, rfl, rfl⟩ := trodAll_nil hA
  obtain rfl : args = #[v0, v1] := by cases args; simp_all
  obtain ⟨rfl, rfl⟩ := trodVars_none hV
  obtain ⟨x0, p0, q0, r0, rfl, b0, c0⟩ := open_nums (hval 0 25 v0 rfl rfl) h0
  obtain ⟨e1, f1, g1, k1, rfl, m1⟩ := open_four (hval 1 26 v1 rfl rfl) h1
  have hG := glob_of_laid hL
  refine (justifies_any x0 p0 q0 r0 e1 f1 g1 k1 W b0 c0 m1 hG).mono fun e W' ⟨he, hb⟩ => ⟨_, he, ?_⟩
  exact post_law Tryz.laidOut (by kernel_rfl) rfl rfl Tryz.underlying4 rfl hW' hb
theorem justifies_holds0 : Rows.StatuteJustifiesSaid :=
  OpenClaim.holds_of_wide 3 Tryz.f3 rfl rfl rfl rfl rfl rfl rfl ⟨rfl, rfl, rfl, rfl, rfl⟩ rfl rfl rfl rfl rfl (by kernel_rfl) Tryz.func3 (by kernel_rfl)
    (of_decide_eq_true (by kernel_rfl)) (by unfold Func.isWrapper; first | (rw [if_pos (by decide +kernel)]; kernel_rfl) | (rw [if_neg (by decide +kernel)]; exact ⟨rfl, rfl⟩))
    (fun os started H enc _ => justifies_lifted os started H enc)
theorem justifies_holds : Rows.StatuteJustifiesCardSaid :=
  Claim7.holds_tied_plain_at .later [] [.data, .data] true (true, "78304fbb246e8804775f2c54728cc139bbd410111efc6731dbbb180c98523ef6") false
    justifies_holds0 (fun _ h => by cases h) (by kernel_rfl) (fun _ h => by cases h) statuteJustifies_row_tie rfl ⟨rfl, rfl⟩ (by kernel_rfl) rfl
    (fun f fn hf hfn => by
      obtain rfl : f = 3 := Option.some.inj ((show Tryz.prog.funcNamed "putlog/putloglaw31.StatuteJustifies" = some 3 by kernel_rfl).symm.trans hf) |>.symm
      obtain rfl : fn = Tryz.f3 := (Option.some.inj (Tryz.func3.symm.trans hfn)).symm
      exact ⟨by kernel_rfl, fun j t ht => by
        rw [Tryz.params3] at ht
        have hm : t ∈ [25, 26] := by (have h := Array.mem_of_getElem? ht); simp at h ⊢; first | exact h | (rcases h with h | h <;> simp [h]) | (rcases h with h | h | h <;> simp [h]) | (rcases h with h | h | h | h <;> simp [h]) | (rcases h with h | h | h | h | h <;> simp [h]) | (rcases h with h | h | h | h | h | h <;> simp [h]) | (rcases h with h | h | h | h | h | h | h <;> simp [h]) | (rcases h with h | h | h | h | h | h | h | h <;> simp [h])
        have hall : ([25, 26].all fun u => !Tryz.prog.wantsStandIn u) = true := by kernel_rfl
        exact (show Tryz.prog.wantsStandIn t = false by simpa using List.all_eq_true.1 hall t hm)⟩)
    (by kernel_rfl)
end Go.Proofs.YtdjldidfnddpmaaGreatDoor
