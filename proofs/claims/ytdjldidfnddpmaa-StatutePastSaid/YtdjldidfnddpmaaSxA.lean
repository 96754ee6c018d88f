/- The law's example, and what the functions answer at it. Conditions: how the laws lie in memory. -/
import Derived.Test.YtdjldidfnddpmaaSwF
namespace Go.Proofs.Ytdjldidfnddpmaa
open Go.RowKit
def exC : CodeD := ⟨[⟨100, 200, 1000, [0], [2], 3⟩, ⟨300, 250, 1000, [1], [], 3⟩], [], [⟨7, 0, 0, 1000, 150, 1000⟩, ⟨7, 2, 500, 1000, 600, 1000⟩]⟩
def exR : CodeD := ⟨[⟨100, 200, 1000, [0], [2], 3⟩, ⟨300, 250, 1000, [1], [], 3⟩], [⟨0, 350, 300⟩], [⟨7, 0, 0, 1000, 150, 1000⟩, ⟨7, 2, 500, 1000, 600, 1000⟩]⟩
def first31 : List FindD := [⟨0, true, 0, -1⟩, ⟨2, false, -1, -1⟩, ⟨3, true, -1, 0⟩]
def second31 : List FindD := [⟨1, false, -1, -1⟩, ⟨2, true, 1, -1⟩, ⟨3, false, -1, -1⟩]
def last31 : List FindD := [⟨3, false, -1, -1⟩]
def decAns (c : CodeD) (q : QueryD) : Bool × List FindD × Int := (validC c && asksB q && answerB c q, if validC c && asksB q then decideP c q else [], errS c q)
theorem ans1 : decAns exC ⟨7, 3, 400, 400⟩ = (true, first31, 0) := by decide +kernel
theorem ans2 : decAns exC ⟨7, 3, 700, 650⟩ = (false, second31, 0) := by decide +kernel
theorem ans3 : (decAns exC ⟨7, 3, 700, 550⟩).1 = true ∧ (decAns exC ⟨7, 3, 700, 550⟩).2.2 = 0 := by decide +kernel
theorem ans4 : decAns exC ⟨7, 3, 199, 650⟩ = (false, last31, 0) := by decide +kernel
theorem ans5 : (decAns exC ⟨7, 3, 400, 120⟩).1 = false ∧ (decAns exC ⟨7, 3, 400, 120⟩).2.2 = 0 := by decide +kernel
theorem ans6 : (decAns exR ⟨7, 3, 400, 400⟩).1 = false ∧ (decAns exR ⟨7, 3, 400, 400⟩).2.2 = 0 := by decide +kernel
theorem use1 : usesFacts exC ⟨7, 3, 700, 650⟩ second31 = [1] ∧ usesClauses exC ⟨7, 3, 700, 650⟩ second31 = [0, 1] ∧ usesErr exC ⟨7, 3, 700, 650⟩ second31 = 0 := by decide +kernel
theorem app1 : appliesF exC ⟨7, 3, 400, 400⟩ = [0] ∧ appliesC exC ⟨7, 3, 400, 400⟩ = [0, 1] ∧ errS exC ⟨7, 3, 400, 400⟩ = 0 := by decide +kernel
theorem chk1 : checkB exC ⟨7, 3, 400, 400⟩ true first31 = true ∧ checkB exC ⟨7, 3, 400, 400⟩ false first31 = false ∧ checkB exC ⟨7, 3, 700, 650⟩ true first31 = false ∧ checkB exC ⟨7, 3, 700, 650⟩ false second31 = true := by decide +kernel
theorem val1 : validC exC = true ∧ validC ⟨[clause0], [], []⟩ = false ∧ asksB ⟨7, 3, 400, 400⟩ = true ∧ asksB ⟨0, 0, -1, 0⟩ = false := by decide +kernel
/-- Decide at laws and a query of which the answer is known -/
theorem decide_at {c : CodeD} {q : QueryD} {b : Bool} {l : List FindD} {n : Int} (h : decAns c q = (b, l, n)) (cv rv fv : Value) (w : World) (hc : CodeIn w.cell? cv rv fv c) : Calls Try.prog 11 #[codeV cv rv fv, queryV q] w (fun e w' => ∃ a m, e = .returned (.tuple #[.bool b, .slice a l.length m, .int .i64 n]) ∧ FindsIn (frm w.heap.size w') (.slice a l.length m) l ∧ Below w.heap.size w w') := by
  have h1 : (validC c && asksB q && answerB c q) = b := congrArg (·.1) h
  have h2 : (if validC c && asksB q then decideP c q else []) = l := congrArg (·.2.1) h
  have h3 : errS c q = n := congrArg (·.2.2) h
  refine (decideS_any c q cv rv fv w hc).mono ?_
  rintro e w' ⟨lv, rfl, hl, hb⟩
  rw [h1, h3]
  rw [h2] at hl
  obtain ⟨a, m, rfl, -⟩ := id hl
  exact ⟨a, m, rfl, hl, hb⟩
theorem decide_at2 {c : CodeD} {q : QueryD} {b : Bool} {n : Int} (h : (decAns c q).1 = b ∧ (decAns c q).2.2 = n) (cv rv fv : Value) (w : World) (hc : CodeIn w.cell? cv rv fv c) : Calls Try.prog 11 #[codeV cv rv fv, queryV q] w (fun e w' => ∃ a k m, e = .returned (.tuple #[.bool b, .slice a k m, .int .i64 n]) ∧ Below w.heap.size w w') := by
  have h1 : (validC c && asksB q && answerB c q) = b := h.1
  have h3 : errS c q = n := h.2
  refine (decideS_any c q cv rv fv w hc).mono ?_
  rintro e w' ⟨lv, rfl, hl, hb⟩
  rw [h1, h3]
  obtain ⟨a, m, rfl, -⟩ := id hl
  exact ⟨a, _, m, rfl, hb⟩
theorem clauses_blk {w : World} {b : Nat} {T : TypeId} {x y : ClauseD} {nv bv mv dv : Value} (h : Blk w b (clauseC x nv bv ++ clauseC y mv dv) T) (h1 : IntsIn w.cell? nv x.needs) (h2 : IntsIn w.cell? bv x.bars) (h3 : IntsIn w.cell? mv y.needs) (h4 : IntsIn w.cell? dv y.bars) : ClausesIn w.cell? (.slice (some ⟨b, 0, none⟩) 2 2) [x, y] :=
  ⟨some ⟨b, 0, none⟩, 2, rfl, by simp, by omega, fun i hi => by
    match i, hi with
    | 0, _ => exact ⟨b, 0, nv, bv, rfl, h.cell 0 rfl, h.cell 1 rfl, h.cell 2 rfl, h.cell 3 rfl, h.cell 4 rfl, h.cell 5 rfl, h1, h2⟩
    | 1, _ => exact ⟨b, 0, mv, dv, rfl, h.cell 6 rfl, h.cell 7 rfl, h.cell 8 rfl, h.cell 9 rfl, h.cell 10 rfl, h.cell 11 rfl, h3, h4⟩⟩
theorem rec_blk {α : Type} {f : α → List Value} {d : α} {k : Nat} (hk : ∀ x, (f x).length = k) {w : World} {b : Nat} {T : TypeId} {l : List α} (h : Blk w b (l.map f).flatten T) (hl : l.length ≤ 1000) : RecIn f d k w.cell? (.slice (some ⟨b, 0, none⟩) l.length l.length) l :=
  ⟨some ⟨b, 0, none⟩, l.length, rfl, Nat.le_refl _, by omega, fun i hi => ⟨b, 0, rfl, fun j u hu => by
    have hL : ∀ r ∈ l.map f, r.length = k := fun r hr => by obtain ⟨x, -, rfl⟩ := List.mem_map.1 hr; exact hk x
    have hj : j < k := by rw [← hk (l.getD i d)]; exact (List.getElem?_eq_some_iff.1 hu).1
    have h1 := flat_get hL i j hj
    have hi' : (l.map f).getD i [] = f (l.getD i d) := by
      rw [List.getD_eq_getElem?_getD, List.getElem?_map, List.getElem?_eq_getElem hi, List.getD_eq_getElem?_getD, List.getElem?_eq_getElem hi]; rfl
    rw [hi', hu] at h1
    rw [Nat.zero_add]
    exact h.cell (i * k + j) h1⟩⟩
theorem ints_blk {w : World} {b : Nat} {T : TypeId} {l : List Int} (h : Blk w b (l.map (Value.int .i64)) T) (hl : l.length ≤ 1000) : IntsIn w.cell? (.slice (some ⟨b, 0, none⟩) l.length l.length) l :=
  ⟨some ⟨b, 0, none⟩, l.length, rfl, Nat.le_refl _, by omega, fun k hk => ⟨b, 0, rfl, by
    rw [Nat.zero_add]
    refine h.cell k ?_
    rw [List.getElem?_map, List.getElem?_eq_getElem hk, List.getD_eq_getElem?_getD, List.getElem?_eq_getElem hk]; rfl⟩⟩
/-- the call returns laws -/
def CodeR (c : CodeD) (w : World) (e : Ending) (w' : World) : Prop := ∃ ca cn ra rn fa fn, e = .returned (codeV (.slice ca c.clauses.length cn) (.slice ra c.repeals.length rn) (.slice fa c.facts.length fn)) ∧ CodeIn w'.cell? (.slice ca c.clauses.length cn) (.slice ra c.repeals.length rn) (.slice fa c.facts.length fn) c ∧ Below w.heap.size w w'
set_option maxRecDepth 100000 in
set_option maxHeartbeats 1000000 in
theorem example31_any (w : World) : Calls Try.prog 20 #[] w (CodeR exC w) := by
  go_enter Try.func20, Try.ntmps20
  go_wp2_with fail
  generalize hX1 : World.alloc w _ = X1
  have zX1 : X1.heap.size = w.heap.size + 1 := by rw [← hX1]; simp
  have bX1 : Below w.heap.size w X1 := by rw [← hX1]; exact bal w _
  have bR_1 : Blk X1 (w.heap.size) [.slice (some ⟨w.heap.size + 1 + 1 + 1 + 1, 0, none⟩) 2 2, .slice none 0 0, .slice (some ⟨w.heap.size + 1 + 1 + 1 + 1 + 1, 0, none⟩) 2 2] 34 := by rw [← hX1]; exact Blk.newA w _ (by first | rfl | simp)
  generalize hX2 : World.alloc X1 _ = X2
  have zX2 : X2.heap.size = w.heap.size + 1 + 1 := by rw [← hX2]; simp [zX1]
  have bX2 : Below X1.heap.size X1 X2 := by rw [← hX2]; exact bal X1 _
  have i1_2 : Blk X2 (w.heap.size + 1) [.int .i64 0] 3 := by rw [← hX2, ← zX1]; exact Blk.newA X1 _ (by first | rfl | simp)
  have bR_2 := bR_1.later bX2
  generalize hX3 : World.alloc X2 _ = X3
  have zX3 : X3.heap.size = w.heap.size + 1 + 1 + 1 := by rw [← hX3]; simp [zX2]
  have bX3 : Below X2.heap.size X2 X3 := by rw [← hX3]; exact bal X2 _
  have i2_3 : Blk X3 (w.heap.size + 1 + 1) [.int .i64 2] 3 := by rw [← hX3, ← zX2]; exact Blk.newA X2 _ (by first | rfl | simp)
  have bR_3 := bR_2.later bX3
  have i1_3 := i1_2.later bX3
  generalize hX4 : World.alloc X3 _ = X4
  have zX4 : X4.heap.size = w.heap.size + 1 + 1 + 1 + 1 := by rw [← hX4]; simp [zX3]
  have bX4 : Below X3.heap.size X3 X4 := by rw [← hX4]; exact bal X3 _
  have i3_4 : Blk X4 (w.heap.size + 1 + 1 + 1) [.int .i64 1] 3 := by rw [← hX4, ← zX3]; exact Blk.newA X3 _ (by first | rfl | simp)
  have bR_4 := bR_3.later bX4
  have i1_4 := i1_3.later bX4
  have i2_4 := i2_3.later bX4
  generalize hX5 : World.alloc X4 _ = X5
  have zX5 : X5.heap.size = w.heap.size + 1 + 1 + 1 + 1 + 1 := by rw [← hX5]; simp [zX4]
  have bX5 : Below X4.heap.size X4 X5 := by rw [← hX5]; exact bal X4 _
  have bC_5 : Blk X5 (w.heap.size + 1 + 1 + 1 + 1) [.int .i64 100, .int .i64 200, .int .i64 1000, .slice (some ⟨w.heap.size + 1, 0, none⟩) 1 1, .slice (some ⟨w.heap.size + 1 + 1, 0, none⟩) 1 1, .int .i64 3, .int .i64 300, .int .i64 250, .int .i64 1000, .slice (some ⟨w.heap.size + 1 + 1 + 1, 0, none⟩) 1 1, .slice none 0 0, .int .i64 3] 51 := by rw [← hX5, ← zX4]; exact Blk.newA X4 _ (by first | rfl | simp)
  have bR_5 := bR_4.later bX5
  have i1_5 := i1_4.later bX5
  have i2_5 := i2_4.later bX5
  have i3_5 := i3_4.later bX5
  generalize hX6 : World.alloc X5 _ = X6
  have zX6 : X6.heap.size = w.heap.size + 1 + 1 + 1 + 1 + 1 + 1 := by rw [← hX6]; simp [zX5]
  have bX6 : Below X5.heap.size X5 X6 := by rw [← hX6]; exact bal X5 _
  have bF : Blk X6 (w.heap.size + 1 + 1 + 1 + 1 + 1) [.int .i64 7, .int .i64 0, .int .i64 0, .int .i64 1000, .int .i64 150, .int .i64 1000, .int .i64 7, .int .i64 2, .int .i64 500, .int .i64 1000, .int .i64 600, .int .i64 1000] 57 := by rw [← hX6, ← zX5]; exact Blk.newA X5 _ (by first | rfl | simp)
  have bR := bR_5.later bX6
  have i1 := i1_5.later bX6
  have i2 := i2_5.later bX6
  have i3 := i3_5.later bX6
  have bC := bC_5.later bX6
  have Xb := below2 (below2 (below2 (below2 (below2 (bX1) bX2) bX3) bX4) bX5) bX6
  have Xz := zX6
  clear hX1 zX1 bX1 hX2 zX2 bX2 hX3 zX3 bX3 hX4 zX4 bX4 hX5 zX5 bX5 hX6 zX6 bX6 bR_1 bR_2 bR_3 bR_4 bR_5 i1_2 i1_3 i1_4 i1_5 i2_3 i2_4 i2_5 i3_4 i3_5 bC_5
  have x0 := bR.cell 0 rfl
  have x1 := bR.cell 1 rfl
  have x2 := bR.cell 2 rfl
  have h1 := clauses_blk (x := ⟨100, 200, 1000, [0], [2], 3⟩) (y := ⟨300, 250, 1000, [1], [], 3⟩) bC (ints_blk (l := [0]) i1 (by decide)) (ints_blk (l := [2]) i2 (by decide)) (ints_blk (l := [1]) i3 (by decide)) (IntsIn.nil _)
  have h2 := rec_blk (f := factC) (d := fact0) (k := 6) (fun _ => rfl) (l := exC.facts) bF (by decide)
  refine bodyPost_ret (v := .agg #[.slice (some ⟨w.heap.size + 1 + 1 + 1 + 1, 0, none⟩) 2 2, .slice none 0 0, .slice (some ⟨w.heap.size + 1 + 1 + 1 + 1 + 1, 0, none⟩) 2 2]) (by simp [results, Try.results20, go_sem, x0, x1, x2]) rfl ?_
  exact ⟨_, _, _, _, _, _, rfl, ⟨h1, RecIn.nil _, h2⟩, Xb⟩
end Go.Proofs.Ytdjldidfnddpmaa
