/- Walks of Wrong, Refutes, Rows and Size of package proof. Conditions: how the program and the proof lie in memory. -/
import Derived.Test.YtppfdjjhloaopaaPr2
import Derived.Test.YtppfdjjhloaopaaAppR2
import Derived.Test.YtppfdjjhloaopaaRegM
import Derived.Test.YtppfdjjhloaopaaPmodC
import Derived.Test.YtppfdjjhloaopaaBase
import Derived.Test.YtppfdjjhloaopaaPmodA
import Derived.Test.YtppfdjjhloaopaaPw6
import Derived.Test.YtppfdjjhloaopaaBlkB
import Derived.Test.YtppfdjjhloaopaaPw11
import Derived.Test.YtppfdjjhloaopaaWrap
import Derived.Test.YtppfdjjhloaopaaPw18
import Derived.Test.YtppfdjjhloaopaaPw12
import Derived.Test.YtppfdjjhloaopaaPfC
import Derived.Defers
import Derived.Recover
import Derived.Test.YtppfdjjhloaopaaPmodQ
import Derived.Test.YtppfdjjhloaopaaKeys
import Derived.Test.YtppfdjjhloaopaaPmodK
/- A copy of rows, with the goal's row behind it. No condition. -/
namespace Go.Proofs.Ytppfdjjhloaopaa
open Go.RowKit

theorem OwnR.empty {W : World} {b0 B k : Nat} {e : TypeId} (h : Blk W b0 [] e) (hB : B ≤ b0) : OwnR W B e k (.slice (some ⟨b0, 0, none⟩) 0 0) [] :=
  ⟨⟨by simp, .inr ⟨b0, 0, #[], rfl, hB, h, Nat.le_refl _, by unfold maxLen; omega, by simp, by simp⟩⟩, fun r hr => by cases hr⟩
theorem step_app_recs3 {W : World} {ops : Array Oper} {o : Oper} {T : Array Value} {D : List Deferred} {K : Act → World → Prop} {Q : Exit → Act → World → Prop} {E : Prop} {e t : TypeId} {k by_ : Nat} {z : Value}
    (hinfo : (Try.prog.info? e).map (fun i => (i.zero, i.size, i.bytes)) = some (some z, k, by_)) (hzk : z.cells.size = k) (hk : 0 < k) (hu : Try.prog.underlying t = some (.slice e)) (hgd : o.guard = none) (s x : Operand)
    (ho : o.op = .call { callee := .builtin .append, args := #[s, x], argTypes := #[t, t] }) (B : Nat) (v : Value) (L : List (List Value)) (hs : Act.eval ⟨T, D⟩ s = v) (hown : OwnR W B e k v L)
    (xa : Option Addr) (m c : Nat) (Lx : List (List Value)) (hm : m = Lx.length) (hx : Act.eval ⟨T, D⟩ x = .slice xa m c) (h6 : ∀ r ∈ Lx, r.length = k) (hone : ∀ u ∈ Lx.flatten, u.oneCell' = true)
    (hcells : ∀ b, xa = some b → ∀ j u, Lx.flatten[j]? = some u → W.cell? (b.add j) = some u) (hnone : xa = none → Lx = []) (hlen : (L.length + Lx.length) * by_ ≤ 140737488355328) (hlen2 : L.length + Lx.length < 1000000) (hB : B ≤ W.heap.size)
    (h : ∀ v' w', OwnR w' B e k v' (L ++ Lx) → W.grownBy w' v.ownBlock → K (Act.put ⟨T, D⟩ o.dst v') w') :
    if Region.wanted o (yielded ops T) = true then Oper.wp Try.prog o ⟨T, D⟩ W K Q else E :=
  step_app_recs2 (a := ⟨T, D⟩) hinfo hzk hk hu hgd s x ho B v L hs hown xa m c Lx hm hx h6 hone hcells hnone hlen hlen2 hB h
/-- a row in one block, its numbers in another -/
def GoalAt (gl : List Int) (g : Int) (B : Nat) (W : World) (v : Value) : Prop :=
  ∃ b8 b7 : Nat, B ≤ b8 ∧ v = .slice (some ⟨b8, 0, none⟩) 1 1 ∧ Blk W b8 (rowCells (goalF gl g) (.slice (some ⟨b7, 0, none⟩) gl.length gl.length)) 67 ∧ Blk W b7 ((goalF gl g).coef.map (Value.int .i64)) 3
theorem GoalAt.later {gl : List Int} {g : Int} {B : Nat} {W W' : World} {v : Value} (h : GoalAt gl g B W v) (hb : Below W.heap.size W W') : GoalAt gl g B W' v :=
  let ⟨b8, b7, h0, h1, h2, h3⟩ := h
  ⟨b8, b7, h0, h1, h2.later hb, h3.later hb⟩
theorem Blk.ne0 {W : World} {b c : Nat} {vs us : List Value} {t t' : TypeId} (h : Blk W b vs t) (k : Blk W c us t') (ht : vs ≠ us) : b ≠ c := fun e => by
  subst e
  have := (show W.heap[b]? = _ from h).symm.trans (show W.heap[b]? = _ from k)
  simp at this; exact ht this.1
theorem GoalAt.grown {gl : List Int} {g : Int} {B b0 : Nat} {W W' : World} {v : Value} (h : GoalAt gl g B W v) (h0 : Blk W b0 [] 67) (hg : W.grownBy W' (some b0)) : GoalAt gl g B W' v := by
  obtain ⟨b8, b7, k0, k1, k2, k3⟩ := h
  refine ⟨b8, b7, k0, k1, k2.grown hg ?_, k3.grown hg ?_⟩
  · have := h0.ne0 k2 (by simp [rowCells]); simpa using this
  · have := h0.ne k3 (by decide); simpa using this
theorem goal_coef_len (gl : List Int) (g : Int) : (goalF gl g).coef.length = gl.length := by simp [goalF]
/-- behind the append of the goal's row -/
theorem goal_rows {W0 W W' : World} {rows : List RowD} {gl : List Int} {g : Int} {Lr : List (List Value)} {v v' : Value} (hl : Lr.length = rows.length) (hgl : gl.length ≤ 13)
    (hs : ∀ i, i < rows.length → ∃ cv, Lr.getD i [] = rowCells (rows.getD i row0) cv ∧ IntsAt W0 cv (rows.getD i row0).coef) (h0 : Below W0.heap.size W0 W) (hO : OwnR W W0.heap.size 67 6 v Lr)
    {b7 : Nat} (hb7 : Blk W b7 ((goalF gl g).coef.map (Value.int .i64)) 3) (hO' : OwnR W' W0.heap.size 67 6 v' (Lr ++ [rowCells (goalF gl g) (.slice (some ⟨b7, 0, none⟩) gl.length gl.length)])) (hg : W.grownBy W' v.ownBlock) :
    RowsAt W' v' (rows ++ [goalF gl g]) := by
  have hb := h0.trans (below_own hO h0.size hg)
  have h7 : Blk W' b7 ((goalF gl g).coef.map (Value.int .i64)) 3 := by
    refine hb7.grown hg ?_
    rcases hO.form with ⟨e, -⟩ | ⟨g', c', cur, e, -, e3, -⟩
    · rw [e]; simp [Value.ownBlock]
    · rw [e]; simp only [Value.ownBlock]
      intro he
      have he : g' = b7 := Option.some.inj he
      subst he
      have := (show W.heap[g']? = _ from hb7).symm.trans e3
      simp at this
  refine (OwnR.rows hO' (l := rows ++ [goalF gl g]) (by simp [hl]) fun i hi => ?_)
  rcases Nat.lt_or_ge i rows.length with h1 | h1
  · obtain ⟨cv, e, hc⟩ := hs i h1
    rw [getD_app_left _ _ _ _ (by omega), getD_app_left _ _ _ _ h1]
    exact ⟨cv, e, hc.below hb⟩
  · have hi' : i = rows.length := by simp at hi; omega
    subst hi'
    rw [getD_app_right _ _ _ _ (by omega), getD_app_right _ _ _ _ (Nat.le_refl _), hl, Nat.sub_self]
    refine ⟨_, rfl, ?_⟩
    have := (h7.ints (B := 0) (Nat.zero_le _) (by rw [goal_coef_len]; omega)).keeps (keeps_frm _ _)
    rwa [goal_coef_len] at this
theorem news2 {W : World} {b0 : Nat} {r : List Value} {t : TypeId} (h : Blk W b0 r t) : ∀ b, (some ⟨b0, 0, none⟩ : Option Addr) = some b → ∀ j u, [r].flatten[j]? = some u → W.cell? (b.add j) = some u := fun b hb j u hj => by
  cases hb
  have h9 := h.cell j (by simpa using hj)
  cases j <;> simpa [Addr.add] using h9
end Go.Proofs.Ytppfdjjhloaopaa
/- Plain words for the reference of programs: its own ways lead to the same answers. No condition. -/
namespace Go.Proofs.Ytppfdjjhloaopaa

theorem broken_none (l : List RowD) (s : Nat) : decide ((brokenUp l s l.length).length = 0) = l.all fun r => decide (chosenF r.coef s ≤ r.most) := by
  rw [Bool.eq_iff_iff, decide_eq_true_eq, List.all_eq_true]
  unfold brokenUp
  rw [List.length_map, List.length_eq_zero_iff, List.filter_eq_nil_iff]
  constructor
  · intro h r hr
    obtain ⟨i, hi, rfl⟩ := List.getElem_of_mem hr
    have := h i (List.mem_range.2 hi)
    rw [List.getD_eq_getElem?_getD, List.getElem?_eq_getElem hi] at this
    simpa [keptB] using this
  · intro h i hi
    have hi := List.mem_range.1 hi
    have := h _ (List.getElem_mem hi)
    rw [List.getD_eq_getElem?_getD, List.getElem?_eq_getElem hi]
    simpa [keptB] using this
theorem keeps_broken (p : ProgD) (s : Int) : keepsB p s = (choiceB p s && decide ((brokenF p s).length = 0)) := by
  unfold keepsB brokenF
  cases h : choiceB p s
  · rfl
  · rw [if_pos rfl, broken_none]
/-- the first of the best of a list, from its end -/
def downStep (g : List Int) (s : Nat) (b : BestD) : BestD := if b.found && decide (chosenF g s < b.gain) then b else ⟨true, s, chosenF g s⟩
def bestDown (g : List Int) (l : List Nat) : BestD := l.foldr (downStep g) best0
theorem foldl_best (g : List Int) : ∀ (l : List Nat) (b : BestD), b.found = true → l.foldl (bestStep g) b = if (bestUp g l).found && decide (b.gain < (bestUp g l).gain) then bestUp g l else b
  | [], b, _ => by simp [bestUp, best0]
  | x :: l, b, hb => by
    have i1 := foldl_best g l ⟨true, x, chosenF g x⟩ rfl
    have i2 := foldl_best g l b hb
    have e0 : bestStep g best0 x = ⟨true, x, chosenF g x⟩ := by simp [bestStep, best0]
    have hU : bestUp g (x :: l) = List.foldl (bestStep g) ⟨true, x, chosenF g x⟩ l := by
      show List.foldl (bestStep g) (bestStep g best0 x) l = _
      rw [e0]
    rw [hU, i1]
    have hs : bestStep g b x = if chosenF g x ≤ b.gain then b else ⟨true, x, chosenF g x⟩ := by unfold bestStep; simp [hb]
    show List.foldl (bestStep g) (bestStep g b x) l = _
    rw [hs]
    generalize bestUp g l = U at *
    generalize chosenF g x = c at *
    obtain ⟨uf, us, ug⟩ := U
    obtain ⟨bf, bs, bg⟩ := b
    have hb : bf = true := hb
    subst hb
    clear hs hU e0
    by_cases hc : c ≤ bg
    · rw [if_pos hc, i2]
      cases uf
      · simp; omega
      · by_cases h1 : bg < ug
        · have h2 : c < ug := by omega
          simp [h1, h2]
        · by_cases h2 : c < ug
          · simp [h1, h2]
          · simp [h1, h2]; omega
    · rw [if_neg hc, i1]
      cases uf
      · simp; omega
      · by_cases h2 : c < ug
        · have h1 : bg < ug := by omega
          simp [h1, h2]
        · have h3 : bg < c := by omega
          simp [h2, h3]
theorem bestDown_eq (g : List Int) : ∀ l : List Nat, bestDown g l = bestUp g l
  | [] => rfl
  | x :: l => by
    have e0 : bestStep g best0 x = ⟨true, x, chosenF g x⟩ := by simp [bestStep, best0]
    show downStep g x (bestDown g l) = List.foldl (bestStep g) (bestStep g best0 x) l
    rw [bestDown_eq g l, e0, foldl_best g l _ rfl]
    unfold downStep
    generalize bestUp g l = U
    cases h : U.found && decide (chosenF g x < U.gain) <;> simp
theorem bestDown_step {g : List Int} {l : List Nat} {i : Nat} (h : i < l.length) : bestDown g (l.drop i) = downStep g (l.getD i 0) (bestDown g (l.drop (i + 1))) := by
  rw [List.drop_eq_getElem_cons h, List.getD_eq_getElem?_getD, List.getElem?_eq_getElem h]; rfl
/-- how many of an ascending list of indices are met among the first k -/
def atK (rows : List Int) : Nat → Nat
  | 0 => 0
  | k + 1 => if decide (atK rows k < rows.length) && decide (rows.getD (atK rows k) 0 = (k : Int)) then atK rows k + 1 else atK rows k
def hitK (rows : List Int) (k : Nat) : Bool := decide (atK rows k < rows.length) && decide (rows.getD (atK rows k) 0 = (k : Int))
def outK (l : List RowD) (rows : List Int) (k : Nat) : List RowD := ((List.range k).filter fun (i : Nat) => !hitK rows i).map fun i => l.getD i row0
theorem atK_yes {rows : List Int} {k : Nat} (h : hitK rows k = true) : atK rows (k + 1) = atK rows k + 1 := by
  unfold hitK at h; simp only [atK]; rw [if_pos h]
theorem atK_no {rows : List Int} {k : Nat} (h : hitK rows k = false) : atK rows (k + 1) = atK rows k := by
  unfold hitK at h; simp only [atK]; rw [if_neg (by rw [h]; simp)]
theorem outK_no {l : List RowD} {rows : List Int} {k : Nat} (h : hitK rows k = false) : outK l rows (k + 1) = outK l rows k ++ [l.getD k row0] := by
  simp only [outK, List.range_succ, List.filter_append, List.map_append, List.filter_cons, h]; simp
theorem outK_yes {l : List RowD} {rows : List Int} {k : Nat} (h : hitK rows k = true) : outK l rows (k + 1) = outK l rows k := by
  simp only [outK, List.range_succ, List.filter_append, List.map_append, List.filter_cons, h]; simp
theorem outK_le (l : List RowD) (rows : List Int) (k : Nat) : (outK l rows k).length ≤ k := by
  have := List.length_filter_le (fun (i : Nat) => !hitK rows i) (List.range k)
  simpa [outK] using this
theorem atK_le (rows : List Int) : ∀ k, atK rows k ≤ rows.length ∧ atK rows k ≤ k
  | 0 => by simp [atK]
  | k + 1 => by
    have ih := atK_le rows k
    cases h : hitK rows k
    · rw [atK_no h]; omega
    · rw [atK_yes h]
      simp only [hitK, Bool.and_eq_true, decide_eq_true_eq] at h
      omega
theorem atK_mono (rows : List Int) {a : Nat} : ∀ {b : Nat}, a ≤ b → atK rows a ≤ atK rows b
  | 0, h => by obtain rfl : a = 0 := by omega
               exact Nat.le_refl _
  | b + 1, h => by
    rcases Nat.lt_or_ge b a with h1 | h1
    · obtain rfl : a = b + 1 := by omega
      exact Nat.le_refl _
    · have ih := atK_mono rows h1
      cases hh : hitK rows b
      · rw [atK_no hh]; exact ih
      · rw [atK_yes hh]; omega
theorem atK_met (rows : List Int) : ∀ k j, j < atK rows k → ∃ m, m < k ∧ rows.getD j 0 = (m : Int) ∧ atK rows m = j
  | 0, j, h => by simp [atK] at h
  | k + 1, j, h => by
    cases hh : hitK rows k
    · rw [atK_no hh] at h
      obtain ⟨m, h1, h2, h3⟩ := atK_met rows k j h
      exact ⟨m, by omega, h2, h3⟩
    · rw [atK_yes hh] at h
      rcases Nat.lt_or_ge j (atK rows k) with h4 | h4
      · obtain ⟨m, h1, h2, h3⟩ := atK_met rows k j h4
        exact ⟨m, by omega, h2, h3⟩
      · obtain rfl : j = atK rows k := by omega
        simp only [hitK, Bool.and_eq_true, decide_eq_true_eq] at hh
        exact ⟨k, by omega, hh.2, rfl⟩
theorem atK_ok {rows : List Int} {n : Nat} (h : atK rows n = rows.length) : okUp rows n rows.length = true := by
  refine List.all_eq_true.2 fun i hi => ?_
  have hi := List.mem_range.1 hi
  obtain ⟨m, h1, h2, h3⟩ := atK_met rows n i (by omega)
  simp only [okAt, isInB, Bool.and_eq_true, Bool.or_eq_true, decide_eq_true_eq]
  refine ⟨by omega, ?_⟩
  rcases Nat.eq_zero_or_pos i with h0 | h0
  · exact .inl h0
  · right
    obtain ⟨m', h1', h2', h3'⟩ := atK_met rows n (i - 1) (by omega)
    rw [h2, h2']
    rcases Nat.lt_or_ge m' m with h4 | h4
    · omega
    · have := atK_mono rows h4
      omega
theorem ok_atK {rows : List Int} {n : Nat} (h : okUp rows n rows.length = true) : atK rows n = rows.length := by
  have ha := okUp_asc h
  have hr : ∀ j, j < rows.length → 0 ≤ rows.getD j 0 ∧ rows.getD j 0 < n := fun j hj => by
    have := List.all_eq_true.1 h j (List.mem_range.2 hj)
    simp only [okAt, isInB, Bool.and_eq_true, decide_eq_true_eq] at this
    omega
  have key : ∀ k, ∀ j, atK rows k ≤ j → j < rows.length → (k : Int) ≤ rows.getD j 0 := by
    intro k
    induction k with
    | zero => intro j _ hj; exact (hr j hj).1
    | succ k ih =>
      intro j h1 hj
      cases hh : hitK rows k
      · rw [atK_no hh] at h1
        have h2 := ih (atK rows k) (Nat.le_refl _) (by omega)
        have h3 : rows.getD (atK rows k) 0 ≤ rows.getD j 0 := by
          rcases Nat.lt_or_ge (atK rows k) j with h4 | h4
          · exact Int.le_of_lt (ha _ _ h4 hj)
          · obtain rfl : j = atK rows k := by omega
            exact Int.le_refl _
        have h5 : rows.getD (atK rows k) 0 ≠ (k : Int) := fun he => by
          simp only [hitK, Bool.and_eq_false_iff, decide_eq_false_iff_not] at hh
          rcases hh with h6 | h6
          · omega
          · exact h6 he
        omega
      · rw [atK_yes hh] at h1
        simp only [hitK, Bool.and_eq_true, decide_eq_true_eq] at hh
        have := ha (atK rows k) j (by omega) hj
        omega
  have hle := atK_le rows n
  rcases Nat.lt_or_ge (atK rows n) rows.length with h1 | h1
  · have h2 := key n _ (Nat.le_refl _) h1
    have h3 := hr _ h1
    omega
  · omega
theorem hit_mem {rows : List Int} {n : Nat} (h : atK rows n = rows.length) {k : Nat} : hitK rows k = memB rows k := by
  rw [Bool.eq_iff_iff]
  simp only [hitK, memB, Bool.and_eq_true, decide_eq_true_eq, List.any_eq_true]
  constructor
  · rintro ⟨h1, h2⟩
    exact ⟨_, getD_mem rows _ h1, by rw [h2]; simp⟩
  · rintro ⟨x, hx, he⟩
    obtain ⟨j, hj, rfl⟩ := List.getElem_of_mem hx
    have he : rows[j] = (k : Int) := by simpa using he
    obtain ⟨m, h1, h2, h3⟩ := atK_met rows n j (by omega)
    rw [List.getD_eq_getElem?_getD, List.getElem?_eq_getElem hj] at h2
    have h2 : rows[j] = (m : Int) := h2
    obtain rfl : m = k := by omega
    rw [h3]
    exact ⟨hj, by rw [List.getD_eq_getElem?_getD, List.getElem?_eq_getElem hj]; exact h2⟩
theorem outK_eq {l : List RowD} {rows : List Int} {n : Nat} (h : atK rows n = rows.length) : outK l rows n = keptUp l rows n := by
  unfold outK keptUp
  congr 1
  exact List.filter_congr fun i _ => by rw [hit_mem h]
theorem okW_at (p : ProgD) (l : List Int) : okW p l = (validB p && decide (l.length ≤ p.rows.length) && decide (atK l p.rows.length = l.length)) := by
  unfold okW
  cases hV : validB p
  · simp
  · cases h : okUp l p.rows.length l.length
    · have : ¬ atK l p.rows.length = l.length := fun he => by have := atK_ok he; rw [h] at this; cases this
      simp [this]
    · have h1 := okUp_len h
      have h2 := ok_atK h
      simp [h1, h2]
end Go.Proofs.Ytppfdjjhloaopaa
/- Plain words: the least sum of a row, number by number; the plain proof's two cases; a program cut to a few rows. No condition. -/
namespace Go.Proofs.Ytppfdjjhloaopaa

/-- the least sum of the first k numbers, where the first d things are decided -/
def leastK (l : List Int) (d s : Nat) : Nat → Int
  | 0 => 0
  | k + 1 => leastK l d s k + (if k < d then (if s / 2 ^ k % 2 = 1 then l.getD k 0 else 0) else if l.getD k 0 < 0 then l.getD k 0 else 0)
theorem leastK_low (l : List Int) (d s : Nat) : ∀ k, k ≤ d → leastK l d s k = chosK (l.take d) s k
  | 0, _ => rfl
  | k + 1, h => by
    simp only [leastK, chosK]
    rw [leastK_low l d s k (by omega), if_pos (by omega), getD_take (by omega)]
theorem leastK_high (l : List Int) (d s : Nat) : ∀ j, leastK l d s (d + j) = chosK (l.take d) s d + negK (l.drop d) j
  | 0 => by
    show leastK l d s d = _
    rw [leastK_low l d s d (Nat.le_refl _)]; simp [negK]
  | j + 1 => by
    show leastK l d s (d + j + 1) = _
    simp only [leastK, negK]
    rw [leastK_high l d s j, if_neg (by omega), getD_drop]; omega
theorem leastK_eq {l : List Int} {d s : Nat} (h : d ≤ l.length) : leastK l d s l.length = leastF l d s := by
  have h1 := leastK_high l d s (l.length - d)
  rw [show d + (l.length - d) = l.length by omega] at h1
  rw [h1]
  unfold leastF chosenF
  rw [List.length_take, List.length_drop, Nat.min_eq_left h]
theorem leastK_bound (l : List Int) (d s : Nat) (hl : coefsB l = true) : ∀ k, k ≤ l.length → -(1000000000 * k : Int) ≤ leastK l d s k ∧ leastK l d s k ≤ 1000000000 * k
  | 0, _ => by simp [leastK]
  | k + 1, h => by
    have ih := leastK_bound l d s hl k (by omega)
    have hb := all_at (d := 0) hl (k := k) (by omega)
    simp only [bndB, decide_eq_true_eq] at hb
    simp only [leastK]
    split
    · split <;> omega
    · split <;> omega
theorem growF_leaf {rows : List RowD} {d s : Nat} (h : rows.any (badB d s) = true) : ∀ (f k : Nat), growF rows f d s k = [leafF (idxF (badB d s) rows)]
  | 0, _ => rfl
  | f + 1, k => by simp only [growF]; rw [if_pos h]
theorem growF_node {rows : List RowD} {f d s k : Nat} (h : rows.any (badB d s) = false) : growF rows (f + 1) d s k =
    nodeF d (k + 1 : Nat) (k + 1 + (growF rows f (d + 1) s (k + 1)).length : Nat) :: (growF rows f (d + 1) s (k + 1) ++ growF rows f (d + 1) (s + 2 ^ d) (k + 1 + (growF rows f (d + 1) s (k + 1)).length)) := by
  simp only [growF]; rw [if_neg (by rw [h]; simp)]
/-- a row with at most 13 numbers -/
def cutR (r : RowD) : RowD := ⟨r.kind, r.a, r.b, r.at_, r.coef.take 13, r.most⟩
/-- the first k rows, with at most 13 numbers each -/
def cutUp (l : List RowD) (k : Nat) : List RowD := (l.take k).map cutR
def fewF (p : ProgD) : ProgD := ⟨p.vars, cutUp p.rows (min p.rows.length 20), p.gain.take 13⟩
theorem cutUp_succ {l : List RowD} {k : Nat} (h : k < l.length) : cutUp l (k + 1) = cutUp l k ++ [cutR (l.getD k row0)] := by
  unfold cutUp; rw [take_succ' l k row0 h, List.map_append]; rfl
theorem cutUp_len {l : List RowD} {k : Nat} (h : k ≤ l.length) : (cutUp l k).length = k := by
  unfold cutUp; rw [List.length_map, List.length_take]; omega
end Go.Proofs.Ytppfdjjhloaopaa
/- Walks of the small functions of package program and of its reference that only read: each returns what its plain word says. Conditions: as each theorem says (sizes; a choice that is not negative). -/
namespace Go.Proofs.Ytppfdjjhloaopaa
open Go.RowKit

set_option maxHeartbeats 400000 in
theorem total_any (l : List Int) (s : Nat) (v : Value) (w : World) (hv : IntsAt w v l) (hl : l.length ≤ 13) (hb : l.all bndB = true) :
    Calls Try.prog 34 #[v, .int .i64 s] w (Ret (.int .i64 (chosenF l s)) w) := by
  obtain ⟨a, c, rfl, -, -, hc⟩ := hv
  go_enter Try.func34, Try.ntmps34
  go_wp2
  go_loopw [5, 6] (fun s5 i wr => ∃ (k : Nat), k ≤ l.length ∧ i = .int .i64 k ∧ s5 = .int .i64 (chosK l s k) ∧ Below w.heap.size w wr) (fun _ i _ => l.length - (intOf i).toNat)
  case atStart => exact ⟨0, by omega, rfl, rfl, Below.refl _ _⟩
  case round =>
    obtain ⟨k, hk, rfl, rfl, hbr⟩ := hrel
    by_cases hlt : k < l.length
    · obtain ⟨b, o, rfl, hck⟩ := hc k hlt
      have hbd := chosK_bound l s hb k (by omega)
      have hbk := all_at (d := 0) hb hlt
      simp only [bndB, decide_eq_true_eq] at hbk
      have hfin : chosK l s (k + 1) = chosK l s k + l.getD k 0 * ((s / 2 ^ k % 2 : Nat) : Int) := by
        simp only [chosK]; rcases bit01 s k with h | h <;> simp [h]
      have hbit := bit01 s k
      generalize l.getD k 0 = x at hck hbk hfin
      generalize chosK l s k = t at hbd hfin ⊢
      have c1 := bwc (keep hbr hck)
      have HF := hide hfin
      clear hc hb hfin hbit
      go_wp2
      refine wp_region_bw (by kernel_rfl) (by kernel_rfl) ?_
      repeat (go_big_quiet_step (fail))
      refine wpQuiet_nil ?_
      rintro _ ⟨i, rfl⟩
      go_wp2
      go_roundw
      case rel => exact ⟨k + 1, by omega, by go_num, i64_eq (by rw [HF.out, tot_step s k x t hbk hbd (by omega)]), bwb i hbr hbr.size⟩
      case measure => simp [intOf]; omega
    · obtain rfl : k = l.length := by omega
      go_wp2
      go_ret
      exact ⟨rfl, hbr⟩
set_option maxHeartbeats 400000 in
theorem bounded_any (l : List Int) (v : Value) (w : World) (hv : IntsAt w v l) :
    Calls Try.prog 62 #[v] w (Ret (.bool (l.all bndB)) w) := by
  obtain ⟨a, c, rfl, hlc, hcm, hc⟩ := hv
  go_enter Try.func62, Try.ntmps62
  go_wp2
  go_loopw [3] (fun i wr => ∃ (k : Nat), k ≤ l.length ∧ i = .int .i64 k ∧ Hid ((l.take k).all bndB = true) ∧ Below w.heap.size w wr) (fun i _ => l.length - (intOf i).toNat)
  case atStart => exact ⟨0, by omega, rfl, rfl, Below.refl _ _⟩
  case round =>
    obtain ⟨k, hk, rfl, HA, hbr⟩ := hrel
    by_cases hlt : k < l.length
    · obtain ⟨b, o, rfl, hck⟩ := hc k hlt
      have HT := hide (all_take_succ (d := 0) (p := bndB) hlt HA.out)
      have HN := hide (all_no (d := 0) (p := bndB) hlt)
      generalize l.getD k 0 = x at hck HT HN
      have ck := keep hbr hck
      clear hc
      by_cases h1 : x < -1000000000
      · go_wp2
        go_ret
        exact ⟨ret_bool (HN.out (by simp [bndB]; omega)).symm, hbr⟩
      · by_cases h2 : 1000000000 < x
        · go_wp2
          go_ret
          exact ⟨ret_bool (HN.out (by simp [bndB]; omega)).symm, hbr⟩
        · go_wp2
          go_roundw
          case rel => exact ⟨k + 1, by omega, by go_num, HT.out (by simp [bndB]; omega), hbr⟩
          case measure => simp [intOf]; omega
    · go_wp2
      go_ret
      exact ⟨ret_bool (all_take_end (by omega) HA.out).symm, hbr⟩
end Go.Proofs.Ytppfdjjhloaopaa
/- Walks of row, Valid, Sum of the reference. Conditions: how the arguments lie in memory. -/
namespace Go.Proofs.Ytppfdjjhloaopaa
open Go.RowKit

set_option maxHeartbeats 1000000 in
theorem rowr_any (r : RowD) (cv : Value) (vars : Int) (w : World) (hv : IntsAt w cv r.coef) :
    Calls Try.prog 63 #[rowV r cv, .int .i64 vars] w (Ret (.bool (rightB r vars)) w) := by
  obtain ⟨a, c, rfl, hlc, hcm, -⟩ := id hv
  have hm1 : (r.coef.length : Int) ≤ 9223372036854775807 := by omega
  obtain ⟨w0, hw0, hb0, c0, c1, c2, c3, c4, c5⟩ := boxedRow w r (.slice a r.coef.length c)
  rw [← hw0] at hb0 c4 c5
  have hv0 := hv.below hb0
  have HF : Hid (rightB r vars = (lenB r.coef.length vars && coefsB r.coef && isInB (-1000000000000) r.most 1000000000000)) := hide rfl
  clear hw0 c0 c1 c2 c3
  by_cases h1 : (r.coef.length : Int) = vars
  · have H1 : Hid (lenB r.coef.length vars = true) := hide (by simp [lenB, h1])
    have e1 : ((r.coef.length : Int) == vars) = true := by simp [h1]
    clear h1
    cases h2 : coefsB r.coef
    · have h2' : r.coef.all bndB = false := h2
      go_enter Try.func63, Try.ntmps63
      go_wp2_with (go_at_call 62; refine (bounded_any r.coef _ _ hv0).mono ?_; rw [h2']; rintro e w1 ⟨rfl, hb1⟩)
      go_ret
      exact ⟨ret_bool (by rw [HF.out, H1.out, h2]; rfl), below2 hb0 hb1⟩
    · have h2' : r.coef.all bndB = true := h2
      by_cases h3 : -1000000000000 ≤ r.most
      · by_cases h4 : r.most ≤ 1000000000000
        · go_enter Try.func63, Try.ntmps63
          go_wp2_with (go_at_call 62; refine (bounded_any r.coef _ _ hv0).mono ?_; rw [h2']; rintro e w1 ⟨rfl, hb1⟩; have d5 := keep hb1 c5)
          go_ret
          exact ⟨ret_bool (by rw [HF.out, H1.out, h2]; simp [isInB]; omega), below2 hb0 hb1⟩
        · go_enter Try.func63, Try.ntmps63
          go_wp2_with (go_at_call 62; refine (bounded_any r.coef _ _ hv0).mono ?_; rw [h2']; rintro e w1 ⟨rfl, hb1⟩; have d5 := keep hb1 c5)
          go_ret
          exact ⟨ret_bool (by rw [HF.out, H1.out, h2]; simp [isInB]; omega), below2 hb0 hb1⟩
      · go_enter Try.func63, Try.ntmps63
        go_wp2_with (go_at_call 62; refine (bounded_any r.coef _ _ hv0).mono ?_; rw [h2']; rintro e w1 ⟨rfl, hb1⟩; have d5 := keep hb1 c5)
        go_ret
        exact ⟨ret_bool (by rw [HF.out, H1.out, h2]; simp [isInB]; omega), below2 hb0 hb1⟩
  · have H1 : Hid (lenB r.coef.length vars = false) := hide (by simp [lenB, h1])
    have e1 : ((r.coef.length : Int) == vars) = false := by simp [h1]
    clear h1
    go_enter Try.func63, Try.ntmps63
    go_wp2_with fail
    go_ret
    exact ⟨ret_bool (by rw [HF.out, H1.out]; rfl), hb0⟩
theorem rows_no {p : ProgD} {k : Nat} (hk : k < p.rows.length) (h : rightB (p.rows.getD k row0) p.vars = false) : rowsB p.rows p.vars = false := all_no (d := row0) hk h
/-- the reference's first test -/
def headB (p : ProgD) : Bool := isInB 0 p.vars 12 && fewB p.rows.length && lenB p.gain.length p.vars && coefsB p.gain
theorem validB_head (p : ProgD) : validB p = (headB p && rowsB p.rows p.vars) := by
  unfold validB headB
  cases isInB 0 p.vars 12 <;> cases fewB p.rows.length <;> cases rowsB p.rows p.vars <;> cases lenB p.gain.length p.vars <;> cases coefsB p.gain <;> rfl
set_option maxHeartbeats 2000000 in
theorem validr_any (p : ProgD) (rv gv : Value) (w : World) (hr : RowsAt w rv p.rows) (hg : IntsAt w gv p.gain) :
    Calls Try.prog 39 #[progV p rv gv] w (Ret (.bool (validB p)) w) := by
  obtain ⟨ra, rc, rfl, hrl, hrm, hrc⟩ := id hr
  obtain ⟨ga, gc, rfl, hgl, hgm, -⟩ := id hg
  have hm1 : (p.rows.length : Int) ≤ 9223372036854775807 := by omega
  have hm2 : (p.gain.length : Int) ≤ 9223372036854775807 := by omega
  obtain ⟨w0, hw0, hb0, c0, c1, c2⟩ := boxedProg w p.vars (.slice ra p.rows.length rc) (.slice ga p.gain.length gc)
  have HW := hide hw0
  rw [← hw0] at hb0 c0 c1 c2
  have hg0 := hg.below hb0
  have hr0 := hr.below hb0
  have HV := hide (validB_head p)
  have HH : Hid (headB p = (isInB 0 p.vars 12 && fewB p.rows.length && lenB p.gain.length p.vars && coefsB p.gain)) := hide rfl
  have HRC := hide hrc
  clear hw0 hrc
  by_cases h1 : p.vars < 0
  · have hx : Hid (isInB 0 p.vars 12 = false) := hide (by simp [isInB]; omega)
    go_enter Try.func39, Try.ntmps39
    go_wp2_with fail
    go_ret
    exact ⟨ret_bool (by rw [HV.out, HH.out]; rw [hx.out]; rfl), hb0⟩
  by_cases h2 : 12 < p.vars
  · have hx : Hid (isInB 0 p.vars 12 = false) := hide (by simp [isInB]; omega)
    go_enter Try.func39, Try.ntmps39
    go_wp2_with fail
    go_ret
    exact ⟨ret_bool (by rw [HV.out, HH.out]; rw [hx.out]; rfl), hb0⟩
  have hx1 : Hid (isInB 0 p.vars 12 = true) := hide (by simp [isInB]; omega)
  by_cases h3 : 300 < (p.rows.length : Int)
  · have hx : Hid (fewB p.rows.length = false) := hide (by simp [fewB]; omega)
    go_enter Try.func39, Try.ntmps39
    go_wp2_with fail
    go_ret
    exact ⟨ret_bool (by rw [HV.out, HH.out]; rw [hx1.out, hx.out]; rfl), hb0⟩
  have hx2 : Hid (fewB p.rows.length = true) := hide (by simp [fewB]; omega)
  by_cases h4 : (p.gain.length : Int) = p.vars
  case neg =>
    have hx : Hid (lenB p.gain.length p.vars = false) := hide (by simp [lenB, h4])
    have e1 : ((p.gain.length : Int) != p.vars) = true := by simpa using h4
    clear h4
    go_enter Try.func39, Try.ntmps39
    go_wp2_with fail
    go_ret
    exact ⟨ret_bool (by rw [HV.out, HH.out]; rw [hx1.out, hx2.out, hx.out]; rfl), hb0⟩
  have hx3 : Hid (lenB p.gain.length p.vars = true) := hide (by simp [lenB, h4])
  have e1 : ((p.gain.length : Int) != p.vars) = false := by simpa using h4
  clear h4
  cases h5 : coefsB p.gain
  · have h5' : p.gain.all bndB = false := h5
    go_enter Try.func39, Try.ntmps39
    go_wp2_with (go_at_call 62; refine (bounded_any p.gain _ _ hg0).mono ?_; rw [h5']; rintro e w1 ⟨rfl, hb1⟩)
    go_ret
    exact ⟨ret_bool (by rw [HV.out, HH.out]; rw [hx1.out, hx2.out, hx3.out, h5]; rfl), below2 hb0 hb1⟩
  · have h5' : p.gain.all bndB = true := h5
    have HH1 : Hid (headB p = true) := hide (by rw [HH.out, hx1.out, hx2.out, hx3.out, h5]; rfl)
    clear h5
    go_enter Try.func39, Try.ntmps39
    go_wp2_with (go_at_call 62; refine (bounded_any p.gain _ _ hg0).mono ?_; rw [h5']; rintro e w1 ⟨rfl, hb1⟩; have d0 := keep hb1 c0; have d1 := keep hb1 c1)
    go_loopw [3] (fun i wr => ∃ k : Nat, k ≤ p.rows.length ∧ i = .int .i64 k ∧ Hid ((p.rows.take k).all (rightB · p.vars) = true) ∧ Below w1.heap.size w1 wr) (fun i _ => p.rows.length - (intOf i).toNat)
    case atStart => exact ⟨0, by omega, rfl, rfl, Below.refl _ _⟩
    case round =>
      obtain ⟨k, hk, rfl, HA, hbr⟩ := hrel
      have k0 := keep hbr d0
      have k1 := keep hbr d1
      by_cases hlt : k < p.rows.length
      · obtain ⟨b, o, cv, rfl, hck⟩ := HRC.out k hlt
        have HT := hide (all_take_succ (d := row0) (p := (rightB · p.vars)) hlt HA.out)
        have HN := hide (rows_no (p := p) hlt)
        have hbx := below2 hb0 (below2 hb1 hbr)
        generalize p.rows.getD k row0 = x at hck HT HN
        obtain ⟨e0, e1', e2, e3, e4, e5, e6⟩ := hck.below hbx
        obtain ⟨ca, cc, rfl, -, -, -⟩ := id e6
        clear hck h5' c0 c1 c2 d0 d1
        have q0 := bwc e0
        have q1 := bwc e1'
        have q2 := bwc e2
        have q3 := bwc e3
        have q4 := bwc e4
        have q5 := bwc e5
        have l0 := bwc k0
        have l1 := bwc k1
        go_wp2_with fail
        have HCALL := hide (fun (i : Bw wr.heap.size wr) => rowr_any x (.slice ca x.coef.length cc) p.vars i.W (IntsIn.keeps (keeps_of_below i.h) e6))
        cases hx : rightB x p.vars
        all_goals
          rw [hx] at HCALL
          refine wp_region_bw (by kernel_rfl) (by kernel_rfl) ?_
          repeat (go_big_quiet_step ((go_at_call 63; exact quiet (HCALL.out _))))
          refine wpQuiet_nil ?_
          rintro _ ⟨i, rfl⟩
          go_wp2_with fail
        · go_ret
          exact ⟨ret_bool (by rw [HV.out, HH1.out, HN.out hx]; rfl), bwb i hbx hbx.size⟩
        · go_roundw
          case rel => exact ⟨k + 1, by omega, by go_num, HT.out hx, bwb i hbr hbr.size⟩
          case measure => simp [intOf]; omega
      · have hR : Hid (rowsB p.rows p.vars = true) := hide (all_take_end (by omega) HA.out)
        go_wp2_with fail
        go_ret
        exact ⟨ret_bool (by rw [HV.out, HH1.out, hR.out]; rfl), below2 hb0 (below2 hb1 hbr)⟩
end Go.Proofs.Ytppfdjjhloaopaa
/- Walks of Sum, Gain, keeps, Broken, Keeps, All of the reference. Conditions: how the arguments lie in memory. -/
namespace Go.Proofs.Ytppfdjjhloaopaa
open Go.RowKit

/-- the number of choices -/
theorem pow_U {n : Nat} (h : n ≤ 13) : ∃ T : Nat, T = 2 ^ n ∧ 1 ≤ T ∧ T ≤ 8192 ∧ wrap64 (2 ^ n) = (T : Int) ∧ IntKind.i64.wrap (2 ^ n) = (T : Int) ∧ (2 : Int) ^ n = (T : Int) := by
  have h1 : 2 ^ n ≤ 2 ^ 13 := Nat.pow_le_pow_right (by omega) h
  have h2 : 1 ≤ 2 ^ n := Nat.one_le_two_pow
  have h3 : (2 : Int) ^ n = ((2 ^ n : Nat) : Int) := by simp
  refine ⟨2 ^ n, rfl, h2, by omega, ?_, ?_, h3⟩
  · rw [h3, wrap_id (by omega) (by omega)]
  · rw [h3, IntKind.wrap_i64]; omega
theorem isIn_pow {s : Int} {n T : Nat} (h : (2 : Int) ^ n = (T : Int)) : isInB 0 s (2 ^ n - 1) = (decide (0 ≤ s) && decide (s < T)) := by
  rw [h]; unfold isInB
  rw [Bool.eq_iff_iff]; simp; omega
/-- what a choice of a valid program is -/
theorem choice_eq {p : ProgD} {s : Int} {T : Nat} (h : (2 : Int) ^ p.vars.toNat = (T : Int)) : choiceB p s = (validB p && (decide (0 ≤ s) && decide (s < T))) := by
  unfold choiceB; rw [isIn_pow h]
set_option maxHeartbeats 1000000 in
theorem keepsl_any (p : ProgD) (rv gv : Value) (s : Nat) (w : World) (hr : RowsAt w rv p.rows) (hrs : ∀ r ∈ p.rows, r.coef.length ≤ 13 ∧ coefsB r.coef = true) :
    Calls Try.prog 56 #[progV p rv gv, .int .i64 s] w (Ret (.bool (keptAll p.rows s)) w) := by
  obtain ⟨ra, rc, rfl, hrl, hrm, hrc⟩ := id hr
  have hm1 : (p.rows.length : Int) ≤ 9223372036854775807 := by omega
  have HK : Hid (keptAll p.rows s = p.rows.all (keptB · s)) := hide rfl
  have HR := hide hrs
  have HRC := hide hrc
  clear hrc hrs
  go_enter Try.func56, Try.ntmps56
  go_wp2_with fail
  generalize hW : World.alloc w _ = W0
  have hb0 : Below w.heap.size w W0 := by rw [← hW]; exact bal w _
  have hP : Blk W0 w.heap.size [.int .i64 p.vars, .slice ra p.rows.length rc, gv] 27 := by rw [← hW]; exact Blk.new w _ _
  clear hW
  go_loopw [5] (fun i wr => ∃ k : Nat, k ≤ p.rows.length ∧ i = .int .i64 k ∧ Hid ((p.rows.take k).all (keptB · s) = true) ∧ Below W0.heap.size W0 wr) (fun i _ => p.rows.length - (intOf i).toNat)
  case atStart => exact ⟨0, by omega, rfl, hide rfl, Below.refl _ _⟩
  case round =>
    obtain ⟨k, hk, rfl, HA, hbr⟩ := hrel
    have hbx := below2 hb0 hbr
    have pc := (hP.later hbr).cell 1 rfl
    by_cases hlt : k < p.rows.length
    · obtain ⟨b, o, cv, rfl, hck⟩ := HRC.out k hlt
      have hm := getD_mem p.rows k (d := row0) hlt
      have hq := HR.out _ hm
      have HT := hide (all_take_succ (d := row0) (p := (keptB · s)) hlt HA.out)
      have HN := hide (fun h => all_no (d := row0) (p := (keptB · s)) hlt h)
      generalize p.rows.getD k row0 = x at hck hm HT HN hq
      obtain ⟨e0, e1, e2, e3, e4, e5, e6⟩ := hck.below hbx
      obtain ⟨ca, cc, rfl, -, -, -⟩ := id e6
      clear hck
      have l1 := bwc pc
      have q4 := bwc e4
      have q5 := bwc e5
      have HCALL := hide (fun (i : Bw wr.heap.size wr) => total_any x.coef s _ i.W (IntsIn.keeps (keeps_of_below i.h) e6) hq.1 hq.2)
      have hkl : decide (k < p.rows.length) = true := by simpa using hlt
      by_cases hgt : x.most < chosenF x.coef s
      · have hx : keptB x s = false := by unfold keptB; exact decide_eq_false (by omega)
        have HX := hide hx
        clear hx
        go_wp2_with fail
        refine wp_region_bw (by kernel_rfl) (by kernel_rfl) ?_
        repeat (go_big_quiet_step ((go_at_call 34; exact quiet (HCALL.out _))))
        refine wpQuiet_nil ?_
        rintro _ ⟨i, rfl⟩
        go_wp2_with fail
        go_ret
        exact ⟨ret_bool (by rw [HK.out, HN.out HX.out]), bwb i hbx hbx.size⟩
      · have hx : keptB x s = true := by unfold keptB; exact decide_eq_true (by omega)
        have HX := hide hx
        clear hx
        go_wp2_with fail
        refine wp_region_bw (by kernel_rfl) (by kernel_rfl) ?_
        repeat (go_big_quiet_step ((go_at_call 34; exact quiet (HCALL.out _))))
        refine wpQuiet_nil ?_
        rintro _ ⟨i, rfl⟩
        go_wp2_with fail
        go_roundw
        case rel => exact ⟨k + 1, by omega, by go_num, HT.out HX.out, bwb i hbr hbr.size⟩
        case measure => simp [intOf]; omega
    · have hR : Hid (p.rows.all (keptB · s) = true) := hide (all_take_end (by omega) HA.out)
      go_wp2_with fail
      go_ret
      exact ⟨ret_bool (by rw [HK.out, hR.out]), hbx⟩
set_option maxHeartbeats 1000000 in
theorem allr_any (p : ProgD) (rv gv : Value) (w : World) (hr : RowsAt w rv p.rows) (hg : IntsAt w gv p.gain) :
    Calls Try.prog 33 #[progV p rv gv] w (RetM2 (fun c v u => IntsIn c v (allF p) ∧ u = .int .i64 (errF p)) w) := by
  obtain ⟨w0, hw0, hb0, c0, c1, c2⟩ := boxedProg w p.vars rv gv
  have hz0 : w.heap.size < w0.heap.size := by rw [← hw0]; simp
  rw [← hw0] at hb0 c0 c1 c2
  have HA : Hid (allF p = if validB p then (goodF p).map fun (s : Nat) => (s : Int) else []) := hide rfl
  have HE : Hid (errF p = if validB p then 0 else 330) := hide rfl
  have HG : Hid (goodF p = goodUp p.rows (2 ^ p.vars.toNat)) := hide rfl
  have hr0 := hr.below hb0
  have hg0 := hg.below hb0
  clear hw0
  cases hV : validB p
  · go_enter Try.func33, Try.ntmps33
    go_wp2_with (go_at_call 39; refine (validr_any p _ _ _ hr0 hg0).mono ?_; rw [hV]; rintro e w1 ⟨rfl, hb1⟩)
    go_ret2
    exact ⟨_, _, rfl, ⟨by rw [HA.out, hV]; exact IntsIn.nil _, by rw [HE.out, hV]; rfl⟩, below2 hb0 hb1⟩
  · obtain ⟨v0, v12, -, hrs, -, -⟩ := valid_parts hV
    obtain ⟨T, hT, -, hT2, hTc, hTi, -⟩ := pow_U (n := p.vars.toNat) (by omega)
    have HT := hide hT
    have HR : Hid (∀ r ∈ p.rows, r.coef.length ≤ 13 ∧ coefsB r.coef = true) := hide fun r h => ⟨by have := hrs r h; omega, (hrs r h).2.1⟩
    have HKP := hide (fun (s : Nat) (W : World) (h : Below w.heap.size w W) => keepsl_any p rv gv s W (hr.below h) HR.out)
    clear hrs hT
    go_enter Try.func33, Try.ntmps33
    go_wp2_with (go_at_call 39; refine (validr_any p _ _ _ hr0 hg0).mono ?_; rw [hV]; rintro e w1 ⟨rfl, hb1⟩; have d0 := keep hb1 c0; have d1 := keep hb1 c1; have d2 := keep hb1 c2)
    go_loopw [4, 5] (fun v i wr => ∃ (k : Nat), k ≤ T ∧ i = .int .i64 k ∧ OwnI wr w1.heap.size v ((goodUp p.rows k).map fun (s : Nat) => (s : Int)) ∧ Below w1.heap.size w1 wr) (fun _ i _ => T - (intOf i).toNat)
    case atStart => exact ⟨0, by omega, rfl, OwnI.nil _ _, Below.refl _ _⟩
    case round =>
      obtain ⟨k, hk, rfl, hown, hbr⟩ := hrel
      have hbx := below2 hb0 (below2 hb1 hbr)
      have p0 := keep hbr d0
      have p1 := keep hbr d1
      have p2 := keep hbr d2
      by_cases hlt : k < T
      · have hle := goodUp_le p.rows k
        have hkd : decide ((k : Int) < (T : Int)) = true := by simp; omega
        have HCALL := hide (HKP.out k)
        cases hx : keptAll p.rows k
        · have e1 := goodUp_no hx
          have HE1 := hide e1
          rw [hx] at HCALL
          clear e1
          go_wp2_with (go_at_call 56; refine (HCALL.out _ hbx).mono ?_; rintro e w2 ⟨rfl, hb2⟩)
          go_roundw
          case rel => exact ⟨k + 1, by omega, by go_num, by rw [HE1.out]; exact hown.later hb2, below2 hbr hb2⟩
          case measure => simp [intOf]; omega
        · have e1 := goodUp_yes hx
          have HE1 := hide e1
          rw [hx] at HCALL
          clear e1
          go_wp2_with (first | (go_at_call 56; refine (HCALL.out _ hbx).mono ?_; rintro e w2 ⟨rfl, hb2⟩; have hown2 := hown.later hb2; have hb12 := below2 hbr hb2) | (at_builtin; refine app_int rfl _ _ rfl w1.heap.size _ _ rfl hown2 k rfl (by simp; omega) hb12.size ?_; intro v' w3 hown3 hb3 hz3))
          go_roundw
          case rel => exact ⟨k + 1, by omega, by go_num, by rw [HE1.out, List.map_append]; exact hown3, hb12.trans hb3⟩
          case measure => simp [intOf]; omega
      · obtain rfl : k = T := by omega
        have hkd : decide ((k : Int) < (k : Int)) = false := by simp
        go_wp2_with fail
        go_ret2
        exact ⟨_, _, rfl, ⟨by rw [HA.out, hV, HG.out, ← HT.out]; exact hown.intsF (below2 hb0 hb1).size, by rw [HE.out, hV]; rfl⟩, hbx⟩
end Go.Proofs.Ytppfdjjhloaopaa
/- Walks of least and plain of the reference. Conditions: how the arguments lie in memory; sizes; that at the last thing some row refutes. -/
namespace Go.Proofs.Ytppfdjjhloaopaa
open Go.RowKit

set_option maxHeartbeats 1000000 in
theorem leastr_any (r : RowD) (cv : Value) (d s : Nat) (w : World) (hv : IntsAt w cv r.coef) (hl : r.coef.length ≤ 13) (hb : coefsB r.coef = true) (hd : d ≤ r.coef.length) :
    Calls Try.prog 57 #[rowV r cv, .int .i64 d, .int .i64 s] w (Ret (.int .i64 (leastF r.coef d s)) w) := by
  obtain ⟨a, c, rfl, hlc, hcm, hc⟩ := id hv
  have hm1 : (r.coef.length : Int) ≤ 9223372036854775807 := by omega
  have HF := hide (leastK_eq (s := s) hd)
  have HB := hide hb
  have HC := hide hc
  clear hc hb
  go_enter Try.func57, Try.ntmps57
  go_wp2_with fail
  generalize hW : World.alloc w _ = W0
  have hb0 : Below w.heap.size w W0 := by rw [← hW]; exact bal w _
  have hP : Blk W0 w.heap.size [.int .i64 r.kind, .int .i64 r.a, .int .i64 r.b, .int .i64 r.at_, .slice a r.coef.length c, .int .i64 r.most] 67 := by rw [← hW]; exact Blk.new w _ _
  clear hW
  go_loopw [7, 8] (fun s7 i wr => ∃ k : Nat, k ≤ r.coef.length ∧ i = .int .i64 k ∧ s7 = .int .i64 (leastK r.coef d s k) ∧ Below W0.heap.size W0 wr) (fun _ i _ => r.coef.length - (intOf i).toNat)
  case atStart => exact ⟨0, by omega, rfl, rfl, Below.refl _ _⟩
  case round =>
    obtain ⟨k, hk, rfl, rfl, hbr⟩ := hrel
    have pc := (hP.later hbr).cell 4 rfl
    have hbx := below2 hb0 hbr
    by_cases hlt : k < r.coef.length
    · obtain ⟨b, o, rfl, hck⟩ := HC.out k hlt
      have hbd := leastK_bound r.coef d s HB.out k hk
      have hbk := all_at (d := 0) HB.out hlt
      simp only [bndB, decide_eq_true_eq] at hbk
      have hk1 : leastK r.coef d s (k + 1) = leastK r.coef d s k + (if k < d then (if s / 2 ^ k % 2 = 1 then r.coef.getD k 0 else 0) else if r.coef.getD k 0 < 0 then r.coef.getD k 0 else 0) := rfl
      have hkl : decide (k < r.coef.length) = true := by simpa using hlt
      generalize r.coef.getD k 0 = x at hck hbk hk1
      generalize leastK r.coef d s k = t at hbd hk1 ⊢
      have HK := hide hk1
      have ck := keep hbx hck
      clear hk1 hck
      by_cases hkd : k < d
      · have HK2 : Hid (leastK r.coef d s (k + 1) = t + x * ((s / 2 ^ k % 2 : Nat) : Int)) := hide (by
          rw [HK.out, if_pos hkd]; rcases bit01 s k with h | h <;> simp [h])
        have c1 := bwc ck
        have p1 := bwc pc
        go_wp2_with fail
        refine wp_region_bw (by kernel_rfl) (by kernel_rfl) ?_
        repeat (go_big_quiet_step (fail))
        refine wpQuiet_nil ?_
        rintro _ ⟨i, rfl⟩
        go_wp2_with fail
        go_roundw
        case rel => exact ⟨k + 1, by omega, by go_num, i64_eq (by rw [HK2.out, tot_step s k x t hbk hbd (by omega)]), bwb i hbr hbr.size⟩
        case measure => simp [intOf]; omega
      · by_cases hx : x < 0
        · go_wp2_with fail
          go_roundw
          case rel => exact ⟨k + 1, by omega, by go_num, i64_eq (by rw [HK.out, if_neg hkd, if_pos hx]), hbr⟩
          case measure => simp [intOf]; omega
        · go_wp2_with fail
          go_roundw
          case rel => exact ⟨k + 1, by omega, by go_num, i64_eq (by rw [HK.out, if_neg hkd, if_neg hx]; simp), hbr⟩
          case measure => simp [intOf]; omega
    · obtain rfl : k = r.coef.length := by omega
      go_wp2_with fail
      go_ret
      exact ⟨ret_int HF.out, hbx⟩
theorem StepsOwn.yes {W : World} {B g c : Nat} {L : List (List Value)} {l : List StepD} (h : OwnR W B 54 4 (.slice (some ⟨g, 0, none⟩) L.length c) L) (hl : L.length = l.length)
    (hs : ∀ i, i < l.length → ∃ wv, L.getD i [] = stepCells (l.getD i st0) wv ∧ OwnW W B wv (l.getD i st0).wts) (k : Nat) (hk : k < l.length) (yes : Int) :
    StepsOwn (W.setCell ⟨g, k * 4 + 2, none⟩ (.int .i64 yes)) B (.slice (some ⟨g, 0, none⟩) L.length c) (l.set k ⟨(l.getD k st0).var, (l.getD k st0).no, yes, (l.getD k st0).wts⟩) := by
  have h1 := h.set k 2 (by omega) (by omega) (.int .i64 yes)
  have e1 : (L.set k ((L.getD k []).set 2 (.int .i64 yes))).length = L.length := List.length_set
  have hE := EffE.setRow h (j := k * 4 + 2) (.int .i64 yes)
  rw [← e1]
  refine ⟨_, by rw [e1]; exact h1, by simp [hl], fun i hi => ?_⟩
  rw [List.length_set] at hi
  by_cases hik : i = k
  · subst hik
    obtain ⟨wv, e, hw⟩ := hs i hi
    refine ⟨wv, ?_, ?_⟩
    · rw [getD_set_eq' _ (by omega), getD_set_eq' _ (by omega), e]; rfl
    · rw [getD_set_eq' _ (by omega)]; exact hw.eff hE
  · obtain ⟨wv, e, hw⟩ := hs i hi
    refine ⟨wv, ?_, ?_⟩
    · rw [getD_set_ne' _ hik, getD_set_ne' _ hik, e]
    · rw [getD_set_ne' _ hik]; exact hw.eff hE
/-- a call of plain returns the steps in a slice of the calls' own -/
def PlainQ (B : Nat) (l : List StepD) (W : World) (e : Ending) (W' : World) : Prop :=
  ∃ v', e = .returned v' ∧ StepsOwn W' B v' l ∧ EffE B 54 W W'
theorem StepsOwn.form {W : World} {B : Nat} {v : Value} {l : List StepD} (h : StepsOwn W B v l) : ∃ a c, v = .slice a l.length c := by
  obtain ⟨L, hOR, hLl, -⟩ := h
  rcases hOR.form with ⟨e, e2⟩ | ⟨g, c, cur, e, -⟩
  · exact ⟨none, 0, by rw [e, ← hLl, e2]; rfl⟩
  · exact ⟨_, c, by rw [e, hLl]⟩
set_option maxRecDepth 100000 in
set_option maxHeartbeats 16000000 in
theorem plain_step (rows : List RowD) (n : Nat) (hn : n ≤ 12) (hrs : ∀ r ∈ rows, r.coef.length = n ∧ coefsB r.coef = true) (rv : Value) (B : Nat) (w0 : World) (hr0 : RowsAt w0 rv rows) (h0B : w0.heap.size ≤ B)
    (f d s : Nat) (l : List StepD) (v : Value) (W : World) (hdn : d ≤ n) (hs : s < 2 ^ d) (hlen : l.length + 2 ^ (f + 1) ≤ 10000) (h0W : Below w0.heap.size w0 W) (hS : StepsOwn W B v l) (hBW : B ≤ W.heap.size)
    (ih : rows.any (badB d s) = false → ∃ f', f = f' + 1 ∧ d + 1 ≤ n ∧ ∀ (s : Nat) (l : List StepD) (v : Value) (W : World), s < 2 ^ (d + 1) → l.length + 2 ^ (f' + 1) ≤ 10000 → Below w0.heap.size w0 W → StepsOwn W B v l → B ≤ W.heap.size →
      Calls Try.prog 36 #[v, rv, .int .i64 ((d : Int) + 1), .int .i64 s] W (PlainQ B (l ++ growF rows f' (d + 1) s l.length) W)) :
    Calls Try.prog 36 #[v, rv, .int .i64 d, .int .i64 s] W (PlainQ B (l ++ growF rows f d s l.length) W) := by
  obtain ⟨av, cv, rfl⟩ := hS.form
  obtain ⟨ra, rc, rfl, hrl, hrm, hrc⟩ := id hr0
  have hm1 : (rows.length : Int) ≤ 9223372036854775807 := by omega
  have hp0 : 1 ≤ 2 ^ (f + 1) := Nat.one_le_two_pow
  have hlen3 : l.length < 10000 := by omega
  have HLEN := hide hlen
  have HR := hide hrs
  have HRC := hide hrc
  have HIH := hide ih
  have HSS := hide hs
  clear hrc hrs ih hlen hp0 hs
  go_enter Try.func36, Try.ntmps36
  go_wp2_with fail
  go_loopw [9] (fun i wr => ∃ k : Nat, k ≤ rows.length ∧ i = .int .i64 k ∧ Hid ((rows.take k).any (badB d s) = false) ∧ Below W.heap.size W wr) (fun i _ => rows.length - (intOf i).toNat)
  case atStart => exact ⟨0, by omega, rfl, hide rfl, Below.refl _ _⟩
  case round =>
    obtain ⟨k, hk, rfl, HA, hbr⟩ := hrel
    have hbx := below2 h0W hbr
    by_cases hlt : k < rows.length
    · obtain ⟨b, o, cv', rfl, hck⟩ := HRC.out k hlt
      have hm := getD_mem rows k (d := row0) hlt
      have hq13 : (rows.getD k row0).coef.length ≤ 13 := by have := HR.out _ hm; omega
      have hqd : d ≤ (rows.getD k row0).coef.length := by have := HR.out _ hm; omega
      have hqc := (HR.out _ hm).2
      have HT := hide (fun h => any_take_succ (d := row0) (p := badB d s) hlt HA.out h)
      have HFD := hide (fun h => idxF_found (badB d s) (d := row0) rows k hlt HA.out h)
      have HAN : Hid (badB d s (rows.getD k row0) = true → rows.any (badB d s) = true) := hide fun h => List.any_eq_true.2 ⟨_, hm, h⟩
      generalize rows.getD k row0 = x at hck hm HT HFD HAN hq13 hqd hqc
      obtain ⟨e0, e1, e2, e3, e4, e5, e6⟩ := hck.below hbx
      obtain ⟨ca, cc, rfl, -, -, -⟩ := id e6
      clear hck
      have q0 := bwc e0
      have q1 := bwc e1
      have q2 := bwc e2
      have q3 := bwc e3
      have q4 := bwc e4
      have q5 := bwc e5
      have HCALL := hide (fun (i : Bw wr.heap.size wr) => leastr_any x _ d s i.W (IntsIn.keeps (keeps_of_below i.h) e6) hq13 hqc hqd)
      have hkl : decide (k < rows.length) = true := by simpa using hlt
      by_cases hgt : x.most < leastF x.coef d s
      · have hx' : badB d s x = true := by unfold badB; exact decide_eq_true hgt
        have HX := hide hx'
        clear hx'
        go_wp2_with fail
        refine wp_region_bw (by kernel_rfl) (by kernel_rfl) ?_
        repeat (go_big_quiet_step (with_reducible exact quiet (HCALL.out _)))
        refine wpQuiet_nil ?_
        rintro _ ⟨i, rfl⟩
        have hb4 := below2 hbr i.h
        generalize i.W = WI at *
        have hb5 := below2 hb4 (bal WI (.cells #[.int .i64 k, .int .i64 1] 56))
        obtain ⟨L, hOR, hLl, hLs⟩ := hS.later hb5
        have hLl2 : L.length < 10000 := by omega
        have hB4 : B ≤ WI.heap.size + 1 := by have := hb4.size; omega
        have hWt : OwnW (WI.alloc (.cells #[.int .i64 k, .int .i64 1] 56)) B (.slice (some ⟨WI.heap.size, 0, none⟩) 1 1) (leafF k).wts := .inr ⟨_, _, Blk.new WI _ _, by have := hb4.size; omega, rfl, rfl⟩
        have HLl := hide hLl
        have HLs := hide hLs
        clear hLl hLs q0 q1 q2 q3 q4 q5
        rw [← HLl.out]
        go_wp2_with (at_builtin; refine app_rec infoStep rfl (by decide) Try.underlying30 rfl _ _ rfl B _ L (by rw [HLl.out]; rfl) hOR [.int .i64 (-1), .int .i64 0, .int .i64 0, .slice (some ⟨WI.heap.size, 0, none⟩) 1 1] rfl cells4 _ rfl (by simp) (by omega) (by omega) (by simp; omega) ?_; intro g c W5 hO5 hE5 hz5)
        go_ret
        refine ⟨_, rfl, ?_, (EffE.of_below hb5).trans hE5⟩
        rw [growF_leaf (HAN.out HX.out), HFD.out HX.out]
        have := StepsOwn.app HLl.out HLs.out hWt (st := leafF k) hO5 hE5
        rw [List.length_append] at this
        exact this
      · have hx' : badB d s x = false := by unfold badB; exact decide_eq_false hgt
        have HX := hide hx'
        clear hx'
        go_wp2_with fail
        refine wp_region_bw (by kernel_rfl) (by kernel_rfl) ?_
        repeat (go_big_quiet_step (with_reducible exact quiet (HCALL.out _)))
        refine wpQuiet_nil ?_
        rintro _ ⟨i, rfl⟩
        go_wp2_with fail
        go_roundw
        case rel => exact ⟨k + 1, by omega, by go_num, HT.out HX.out, bwb i hbr hbr.size⟩
        case measure => simp [intOf]; omega
    · obtain rfl : k = rows.length := by omega
      have hnb := any_take_end (p := badB d s) (Nat.le_refl rows.length) HA.out
      obtain ⟨f', hf', hdn', hih⟩ := HIH.out hnb
      have HLEN2 : Hid (l.length + 2 ^ (f' + 1 + 1) ≤ 10000) := hide (by have := HLEN.out; rw [hf'] at this; exact this)
      have hp1 : 2 ^ (f' + 1 + 1) = 2 ^ (f' + 1) + 2 ^ (f' + 1) := by rw [Nat.pow_succ]; omega
      have hp2 : 1 ≤ 2 ^ (f' + 1) := Nat.one_le_two_pow
      have HP1 : Hid (l.length + 1 + 2 ^ (f' + 1) ≤ 10000) := hide (by have := HLEN2.out; omega)
      obtain ⟨T, hT, hT1, hT2, hTc, hTi, -⟩ := pow_U (n := d) (by omega)
      have hsT : s < T := by rw [hT]; exact HSS.out
      have HT := hide hT
      have HNB := hide hnb
      have HC := hide hih
      have HFF := hide hf'
      clear hnb hih hp1 hp2 HIH hT hf'
      obtain ⟨L, hOR, hLl, hLs⟩ := hS.later hbr
      have hLl2 : L.length < 10000 := by omega
      have hB4 : B ≤ wr.heap.size := by have := hbr.size; omega
      have hWt : OwnW wr B (.slice none 0 0) (nodeF d (L.length + 1) 0).wts := .inl ⟨rfl, rfl⟩
      have HLl := hide hLl
      have HLs := hide hLs
      clear hLl hLs
      rw [← HLl.out]
      go_wp2_with (at_builtin; refine app_rec infoStep rfl (by decide) Try.underlying30 rfl _ _ rfl B _ L (by rw [HLl.out]; rfl) hOR [.int .i64 d, .int .i64 (L.length + 1), .int .i64 0, .slice none 0 0] rfl cells4 _ rfl rfl (by omega) (by omega) (by omega) ?_; intro g c W5 hO5 hE5 hz5)
      have E5 : EffE B 54 W W5 := (EffE.of_below hbr).trans hE5
      have S5 : StepsOwn W5 B (.slice (some ⟨g, 0, none⟩) (L.length + 1) c) (l ++ [nodeF d (L.length + 1) 0]) := by
        have := StepsOwn.app HLl.out HLs.out hWt (st := nodeF d (L.length + 1) 0) hO5 hE5
        rw [List.length_append] at this
        exact this
      have X5 : Below w0.heap.size w0 W5 := h0W.trans ((E5.below hBW).mono h0B)
      have hB5 : B ≤ W5.heap.size := by have := E5.size; omega
      have hpd : 2 ^ (d + 1) = 2 ^ d + 2 ^ d := by rw [Nat.pow_succ]; omega
      have HPD := hide hpd
      have C1 := hide (HC.out s (l ++ [nodeF d (L.length + 1) 0]) _ W5 (by rw [HPD.out, ← HT.out]; exact Nat.lt_of_lt_of_le hsT (Nat.le_add_right T T)) (by rw [List.length_append]; exact HP1.out) X5 S5 hB5)
      clear hpd
      refine C1.out.mono ?_
      rintro e W7 ⟨v7, rfl, hS7, hE7⟩
      have hl1 : (l ++ [nodeF d (L.length + 1) 0]).length = l.length + 1 := by simp
      rw [hl1] at hS7
      have gA := (growF_len rows f' (d + 1) s (l.length + 1)).2
      generalize hA : growF rows f' (d + 1) s (l.length + 1) = A at hS7 gA
      have HA' := hide hA
      have HGA := hide gA
      clear hA gA hl1
      obtain ⟨L7, hOR7, hLl7, hLs7⟩ := hS7
      have HL7 : Hid (L7.length = l.length + 1 + A.length) := hide (by rw [hLl7]; simp; omega)
      obtain ⟨g7, c7, rfl⟩ : ∃ g7 c7, v7 = .slice (some ⟨g7, 0, none⟩) L7.length c7 := by
        rcases hOR7.form with ⟨-, e2⟩ | ⟨g, c, cur, e, -⟩
        · rw [e2] at hLl7; simp at hLl7
        · exact ⟨_, _, e⟩
      have hlm : l.length < (l ++ [nodeF d (L.length + 1) 0] ++ A).length := by simp
      have hst : (l ++ [nodeF d (L.length + 1) 0] ++ A).getD l.length st0 = nodeF d (L.length + 1) 0 := by
        rw [List.append_assoc, getD_app_right _ _ _ _ (Nat.le_refl _)]; simp
      have hll : L.length < L7.length := by rw [HL7.out, HLl.out]; omega
      have m2 := hOR7.cell L.length 2 hll (by omega) (u := .int .i64 0) (by
        obtain ⟨wv, hk7, -⟩ := hLs7 l.length hlm
        rw [HLl.out, hk7, hst]; rfl)
      have m4 := hOR7.frozen (L.length * 4 + 2)
      have P8 := StepsOwn.yes hOR7 hLl7 hLs7 l.length hlm (L7.length : Nat)
      have E8 := EffE.setRow hOR7 (j := L.length * 4 + 2) (.int .i64 ((L7.length : Nat) : Int))
      rw [hst, ← HLl.out] at P8
      have hL7b : (L7.length : Int) ≤ 9223372036854775807 := by
        have := HL7.out; have := HGA.out; have := HP1.out; omega
      have e1 : IntKind.i64.wrap ((s : Int) + (T : Int)) = (s : Int) + T := IntWalk.i64_in _ (by omega)
      clear hLl7 hLs7 hst hlm
      go_wp2_with fail
      have hln : (((l ++ [nodeF d (L.length + 1) 0] ++ A).set L.length ⟨(nodeF d (L.length + 1) 0).var, (nodeF d (L.length + 1) 0).no, ((L7.length : Nat) : Int), (nodeF d (L.length + 1) 0).wts⟩)).length = l.length + 1 + A.length := by
        rw [List.length_set]; simp; omega
      have hcast : ((s : Int) + (T : Int)) = ((s + 2 ^ d : Nat) : Int) := by rw [← HT.out]; omega
      have hW7 : B ≤ W7.heap.size := by have := hE7.size; omega
      have hX8 : Below w0.heap.size w0 (W7.setCell ⟨g7, L.length * 4 + 2, none⟩ (.int .i64 ((L7.length : Nat) : Int))) := X5.trans (((hE7.trans E8).below hB5).mono h0B)
      have hlast : s + 2 ^ d < 2 ^ (d + 1) := by rw [HPD.out]; have := HSS.out; exact Nat.add_lt_add_right this _
      have hlen9 : l.length + 1 + A.length + 2 ^ (f' + 1) ≤ 10000 := by
        have h1 := HLEN2.out
        have h2 := HGA.out
        have h3 : 2 ^ (f' + 1 + 1) = 2 ^ (f' + 1) + 2 ^ (f' + 1) := by rw [Nat.pow_succ]; omega
        omega
      have C2 := hide (HC.out (s + 2 ^ d) _ _ _ hlast (by rw [hln]; exact hlen9) hX8 P8 (by simpa [World.setCell] using hW7))
      have HCA := hide hcast
      have HLN := hide hln
      have HL9 := hide hlen9
      clear hcast hln hlen9 hlast
      rw [HCA.out]
      refine C2.out.mono ?_
      rintro e W9 ⟨v9, rfl, hS9, hE9⟩
      rw [HLN.out] at hS9
      obtain ⟨a9, c9, e9⟩ := hS9.form
      generalize List.length _ = m9 at e9
      subst e9
      go_wp2_with fail
      go_ret
      refine ⟨_, rfl, ?_, ((E5.trans hE7).trans E8).trans hE9⟩
      have eset : (l ++ [nodeF d (L.length + 1) 0] ++ A).set L.length ⟨(nodeF d (L.length + 1) 0).var, (nodeF d (L.length + 1) 0).no, ((L7.length : Nat) : Int), (nodeF d (L.length + 1) 0).wts⟩ ++ growF rows f' (d + 1) (s + 2 ^ d) (l.length + 1 + A.length) = l ++ growF rows f d s l.length := by
        rw [HFF.out, growF_node HNB.out, HA'.out, HL7.out, HLl.out, List.append_assoc, List.set_append_right _ _ (Nat.le_refl _)]
        simp [nodeF]
      rw [← eset]
      exact hS9
set_option maxRecDepth 100000 in
theorem plain_any (rows : List RowD) (n : Nat) (hn : n ≤ 12) (hrs : ∀ r ∈ rows, r.coef.length = n ∧ coefsB r.coef = true) (href : ∀ s, s < 2 ^ n → rows.any (badB n s) = true) (rv : Value) (B : Nat) (w0 : World) (hr0 : RowsAt w0 rv rows) (h0B : w0.heap.size ≤ B) :
    ∀ (f d s : Nat) (l : List StepD) (v : Value) (W : World), d + f = n → s < 2 ^ d → l.length + 2 ^ (f + 1) ≤ 10000 → Below w0.heap.size w0 W → StepsOwn W B v l → B ≤ W.heap.size →
      Calls Try.prog 36 #[v, rv, .int .i64 d, .int .i64 s] W (PlainQ B (l ++ growF rows f d s l.length) W)
  | 0, d, s, l, v, W, hdf, hs, hlen, h0W, hS, hBW => by
    obtain rfl : d = n := by omega
    exact plain_step rows d hn hrs rv B w0 hr0 h0B 0 d s l v W (Nat.le_refl _) hs hlen h0W hS hBW (fun h => by rw [href s hs] at h; cases h)
  | f + 1, d, s, l, v, W, hdf, hs, hlen, h0W, hS, hBW =>
    plain_step rows n hn hrs rv B w0 hr0 h0B (f + 1) d s l v W (by omega) hs hlen h0W hS hBW (fun _ => ⟨f, rfl, by omega, fun s l v W h1 h2 h3 h4 h5 => by
      have := plain_any rows n hn hrs href rv B w0 hr0 h0B f (d + 1) s l v W (by omega) h1 h2 h3 h4 h5
      rwa [show ((d + 1 : Nat) : Int) = (d : Int) + 1 from by omega] at this⟩)
end Go.Proofs.Ytppfdjjhloaopaa
/- The walk of Solve of the reference. Conditions: how the arguments lie in memory. -/
namespace Go.Proofs.Ytppfdjjhloaopaa
open Go.RowKit

theorem app_recs {w : World} {ops : Array Oper} {rest : List Oper} {o : Oper} {a : Act} {Q : Exit → Act → World → Prop} {e t : TypeId} {k by_ : Nat} {z : Value}
    (hinfo : (Try.prog.info? e).map (fun i => (i.zero, i.size, i.bytes)) = some (some z, k, by_)) (hzk : z.cells.size = k) (hk : 0 < k) (hu : Try.prog.underlying t = some (.slice e)) (hgd : o.guard = none) (s x : Operand)
    (ho : o.op = .call { callee := .builtin .append, args := #[s, x], argTypes := #[t, t] }) (B : Nat) (v : Value) (L : List (List Value)) (hs : a.eval s = v) (hown : OwnR w B e k v L)
    (xa : Option Addr) (m c : Nat) (Lx : List (List Value)) (hm : m = Lx.length) (hx : a.eval x = .slice xa m c) (h6 : ∀ r ∈ Lx, r.length = k) (hone : ∀ u ∈ Lx.flatten, u.oneCell' = true)
    (hcells : ∀ b, xa = some b → ∀ j u, Lx.flatten[j]? = some u → w.cell? (b.add j) = some u) (hnone : xa = none → Lx = []) (hlen : (L.length + Lx.length) * by_ ≤ 140737488355328) (hlen2 : L.length + Lx.length < 1000000) (hB : B ≤ w.heap.size)
    (h : ∀ v' w', OwnR w' B e k v' (L ++ Lx) → w.grownBy w' v.ownBlock → wpList Try.prog ops Q rest (a.put o.dst v') w') :
    wpList Try.prog ops Q (o :: rest) a w := by
  subst hm
  obtain ⟨i0, hi, hz0, hz1, hz2⟩ := info_parts hinfo
  refine wpList_plain hgd fun K hK => ?_
  unfold Oper.wp execOp
  cases xa with
  | none =>
    obtain rfl := hnone rfl
    have hrun := run_app_nil B t o.type e i0 k hu hi v L.length L.flatten hown.1 c
    have hx' : a.eval x = .slice none 0 c := hx
    simp only [ho, resolve, invoke, builtin, Sem.run_bind, Sem.run_pure, Result.andThen_ok, List.map_toArray, List.map_cons, List.map_nil, hs, hx', hrun]
    exact hK _ _ (h v w (by simpa using hown) (World.grownBy.refl w _))
  | some ad =>
    obtain ⟨v', w', hrun, h2, h3, -, h5⟩ := run_append_own_at (P := Try.prog) w B t o.type e i0 z k by_ hu hi hz0 hz1 hz2 hzk hk v L.length L.flatten hown.1
      ad Lx.length c Lx.flatten (flat_len h6) (hcells ad rfl) hone (by unfold maxLen; omega) hlen hB
    simp only [ho, resolve, invoke, builtin, Sem.run_bind, Sem.run_pure, Result.andThen_ok, List.map_toArray, List.map_cons, List.map_nil, hs, hx, hrun]
    refine hK _ _ (h v' w' ⟨by simpa using h2, fun q hq => ?_⟩ h3)
    rcases List.mem_append.1 hq with h2 | h2
    · exact hown.2 q h2
    · exact h6 q h2
theorem allF_good {p : ProgD} (h : validB p = true) : allF p = (goodF p).map fun (s : Nat) => (s : Int) := by unfold allF; rw [if_pos h]
theorem good_le {p : ProgD} (h : validB p = true) : (goodF p).length ≤ 4096 := by
  obtain ⟨v0, v12, -⟩ := valid_parts h
  have h1 := goodUp_le p.rows (2 ^ p.vars.toNat)
  have h2 : 2 ^ p.vars.toNat ≤ 2 ^ 12 := Nat.pow_le_pow_right (by omega) (by omega)
  unfold goodF; omega
theorem mapN_getD (l : List Nat) (j : Nat) : (l.map fun (s : Nat) => (s : Int)).getD j 0 = ((l.getD j 0 : Nat) : Int) := by
  rw [List.getD_eq_getElem?_getD, List.getD_eq_getElem?_getD, List.getElem?_map]
  cases l[j]? <;> simp
theorem rowsF_ok {p : ProgD} (hV : validB p = true) : ∀ r ∈ rowsF p, r.coef.length = p.vars.toNat ∧ coefsB r.coef = true := by
  obtain ⟨v0, -, -, hrs, hgl, hgc⟩ := valid_parts hV
  have key : ∀ r ∈ p.rows, r.coef.length = p.vars.toNat ∧ coefsB r.coef = true := fun r h => ⟨by have := hrs r h; omega, (hrs r h).2.1⟩
  intro r hr
  unfold rowsF at hr
  split at hr
  · rcases List.mem_append.1 hr with h | h
    · exact key r h
    · simp at h; subst h; exact ⟨by simp [goalF]; omega, coefsB_neg hgc⟩
  · exact key r hr
theorem best_step (g : List Int) (x : Nat) (b : BestD) : downStep g x b = if b.found && decide (chosenF g x < b.gain) then b else ⟨true, x, chosenF g x⟩ := rfl
theorem keeps_frm_set {B b : Nat} (w : World) (h : b < B) (j : Nat) (u : Value) : Keeps (frm B w) (frm B (w.setCell ⟨b, j, none⟩ u)) :=
  keeps_frm_later fun k hk _ => Below.heap_setCell w ⟨b, j, none⟩ u k (by show k ≠ b; omega)
set_option maxRecDepth 100000 in
set_option maxHeartbeats 4000000 in
theorem solver_any (p : ProgD) (rv gv : Value) (w : World) (hr : RowsAt w rv p.rows) (hg : IntsAt w gv p.gain) :
    Calls Try.prog 11 #[progV p rv gv] w (RetM2 (fun c v u => SolIn c v (solveF p) ∧ u = .int .i64 (errF p)) w) := by
  have HE : Hid (errF p = if validB p then 0 else 330) := hide rfl
  have HAL := hide (fun (W : World) (h : Below w.heap.size w W) => allr_any p rv gv W (hr.below h) (hg.below h))
  have HR0 := hr
  have HG0 := hg
  obtain ⟨ra, rc, rfl, hrl, hrm, -⟩ := id hr
  obtain ⟨ga, gc, rfl, -, hgm, -⟩ := id hg
  clear hr hg
  go_enter Try.func11, Try.ntmps11
  go_wp2_with fail
  generalize hX1 : World.alloc w _ = X1
  have zX1 : X1.heap.size = w.heap.size + 1 := by rw [← hX1]; simp
  have bX1 : Below w.heap.size w X1 := by rw [← hX1]; exact bal w _
  have bP_1 : Blk X1 (w.heap.size) [.int .i64 p.vars, .slice ra p.rows.length rc, .slice ga p.gain.length gc] 27 := by rw [← hX1]; exact Blk.newA w _ (by first | rfl | simp)
  generalize hX2 : World.alloc X1 _ = X2
  have zX2 : X2.heap.size = w.heap.size + 1 + 1 := by rw [← hX2]; simp [zX1]
  have bX2 : Below X1.heap.size X1 X2 := by rw [← hX2]; exact bal X1 _
  have bR : Blk X2 (w.heap.size + 1) [.bool false, .int .i64 0, .int .i64 0, .slice none 0 0] 34 := by rw [← hX2, ← zX1]; exact Blk.newA X1 _ (by first | rfl | simp)
  have bP := bP_1.later bX2
  have Xb := below2 (bX1) bX2
  have Xz := zX2
  clear hX1 zX1 bX1 hX2 zX2 bX2 bP_1
  refine (HAL.out _ Xb).mono ?_
  rintro e W1 ⟨lv, u, rfl, ⟨hl, rfl⟩, hb1⟩
  have hl1 : IntsAt W1 lv (allF p) := hl.keeps (keeps_frm _ _)
  have hbw1 := below2 Xb hb1
  have bP1 := bP.later hb1
  have bR1 := bR.later hb1
  clear hl bP bR
  cases hV : validB p
  · have e1 : errF p = 330 := by rw [HE.out, hV]; rfl
    rw [e1]
    obtain ⟨la, lc, rfl, -, -, -⟩ := hl1
    generalize (allF p).length = ml
    have t0 := (bR1).cell 0 rfl
    have t1 := (bR1).cell 1 rfl
    have t2 := (bR1).cell 2 rfl
    have t3 := (bR1).cell 3 rfl
    have f0 := (bR1).frozen 0
    have f1 := (bR1).frozen 1
    have f2 := (bR1).frozen 2
    have f3 := (bR1).frozen 3
    go_wp2_with fail
    obtain ⟨z1, z2, -⟩ := set4 bR1 (.bool false) (.int .i64 0) (.int .i64 0) (.slice none 0 0)
    have z3 := z2 _ _ hbw1 (by omega)
    generalize World.setCell (World.setCell _ _ _) ⟨w.heap.size + 1, 3, none⟩ _ = Wf at z1 z3 ⊢
    have y0 := z1.cell 0 rfl
    have y1 := z1.cell 1 rfl
    have y2 := z1.cell 2 rfl
    have y3 := z1.cell 3 rfl
    have HV : solveF p = ⟨false, 0, 0, []⟩ := by unfold solveF; rw [if_neg (by rw [hV]; simp)]
    refine bodyPost_ret (v := .tuple #[.agg #[.bool false, .int .i64 0, .int .i64 0, .slice none 0 0], .int .i64 330]) (by simp [results, Try.results11, go_sem, y0, y1, y2, y3]) rfl ?_
    exact ⟨_, _, rfl, ⟨⟨_, by rw [HV], by rw [HV]; exact StepsIn.nil _⟩, by rw [e1]⟩, z3⟩
  · have e1 : errF p = 0 := by rw [HE.out, hV]; rfl
    rw [e1]
    obtain ⟨v0, v12, -, hrs, hgl, hgc⟩ := valid_parts hV
    have HSV : Hid (solveF p = ⟨(bestF p).found, (bestF p).set, (bestF p).gain, growF (rowsF p) p.vars.toNat 0 0 0⟩) := hide (by unfold solveF; rw [if_pos hV])
    have HBD := hide (best_bd hV)
    have HREF := hide (refuted p hV)
    have HOK : Hid (∀ r ∈ rowsF p, r.coef.length = p.vars.toNat ∧ coefsB r.coef = true) := hide (rowsF_ok hV)
    have HGL : Hid (p.gain.length ≤ 13) := by show _ ≤ _; omega
    have HGC := hide hgc
    have HRL : Hid (p.rows.length ≤ 300) := hide (valid_parts hV).2.2.1
    have HN12 : Hid (p.vars.toNat ≤ 12) := by show _ ≤ _; omega
    have HRN := hide (rowsF_none (p := p))
    have HRY := hide (rowsF_found (p := p))
    have HBE : Hid (bestDown p.gain (goodF p) = bestF p) := hide (bestDown_eq _ _)
    have hml := good_le hV
    rw [allF_good hV] at hl1
    have HE1 := hide e1
    clear hrs hgl hgc e1
    generalize hGL : goodF p = GL at hl1 hml HBE
    obtain ⟨la, lc, rfl, hll1, hll2, hlc⟩ := hl1
    have hll : (GL.map fun (s : Nat) => (s : Int)).length = GL.length := by simp
    rw [hll] at hll1 hlc ⊢
    have HLC := hide hlc
    clear hlc hll hGL
    have q2 := bP1.cell 2 rfl
    go_wp2_with fail
    generalize hW2 : World.alloc W1 _ = W2
    have hb2 : Below W1.heap.size W1 W2 := by rw [← hW2]; exact bal W1 _
    have bS : Blk W2 W1.heap.size (solCells best0) 34 := by rw [← hW2]; exact Blk.newA W1 _ rfl
    have hz2 : W1.heap.size < W2.heap.size := bS.lt
    clear hW2 q2
    go_loopw [7] (fun i wr => ∃ k : Nat, k ≤ GL.length ∧ i = .int .i64 ((k : Int) - 1) ∧ Blk wr W1.heap.size (solCells (bestDown p.gain (GL.drop k))) 34 ∧ Below W1.heap.size W1 wr ∧ W2.heap.size ≤ wr.heap.size) (fun i _ => (intOf i + 1).toNat)
    case atStart => exact ⟨GL.length, Nat.le_refl _, by go_num, by rw [List.drop_length]; exact bS, hb2, Nat.le_refl _⟩
    case round =>
      obtain ⟨k, hk, rfl, hS, hbr, hz⟩ := hrel
      rcases k with _ | j
      · rw [List.drop_zero, HBE.out] at hS
        generalize bestF p = BB at hS HSV HBD HRN HRY
        obtain ⟨bf, bs, bg⟩ := BB
        have hbwr := below2 hbw1 hbr
        have hrr := HR0.below hbwr
        obtain ⟨Lr, hLl, hL6, hLone, hLs, -, hLt⟩ := rows_from (RowsAt.to hrr)
        have hLt2 := hLt p.rows.length
        rw [List.take_of_length_le (Nat.le_of_eq hLl)] at hLt2
        have HLl := hide hLl
        have HLs := hide hLs
        have HLt := hide hLt2
        have HL6 := hide hL6
        have HLone := hide hLone
        have hLr : Lr.length ≤ 300 := by rw [hLl]; exact HRL.out
        have hRlt := bR1.lt
        have hRne : w.heap.size + 1 ≠ W1.heap.size := Nat.ne_of_lt hRlt
        have p1 := (bP1.later hbr).cell 1 rfl
        have lP := (bP1.later hbr).lt
        clear hLl hL6 hLone hLs hLt hLt2 HBE HLC hml
        go_wp2_with (at_builtin; refine app_recs infoRow rfl (by decide) Try.underlying24 rfl _ _ rfl wr.heap.size _ [] rfl (lit_recs wr _ 6 (Nat.le_refl _)) _ _ _ Lr HLl.out.symm rfl HL6.out HLone.out (fun b hb j u hj => keep (bal wr _) (HLt.out.1 b hb j u hj)) HLt.out.2 (by simp only [List.length_nil]; omega) (by simp only [List.length_nil]; omega) (by simp) ?_; intro v3 W3 hO3 hg3; rw [List.nil_append] at hO3; have hb3 : Below wr.heap.size wr W3 := (bal wr _).trans (below_own (lit_recs wr _ 6 (Nat.le_refl _)) (by simp) hg3); obtain ⟨a3, c3, rfl⟩ := own_form hO3 HLl.out; have bS3 := hS.later hb3; have s0 := bS3.cell 0 rfl; have s2 := bS3.cell 2 rfl; have bP3 := (bP1.later hbr).later hb3; have p30 := bP3.cell 0 rfl; have p31 := bP3.cell 1 rfl; have p32 := bP3.cell 2 rfl; cases bf)
        all_goals have hbw3 := below2 hbwr hb3
        all_goals have bR3 := (bR1.later hbr).later hb3
        all_goals have hlt3 := bS3.lt
        · have rr3 : RowsAt W3 (.slice a3 p.rows.length c3) p.rows := OwnR.rows hO3 HLl.out (fun i hi => let ⟨cv, e, hc⟩ := HLs.out i hi; ⟨cv, e, IntsAt.below hb3 hc⟩)
          have hbw4 := hbw3
          have bR4 := bR3
          clear p1 lP p30 p31 p32
          have hREF' := HREF.out
          have hOK' := HOK.out
          rw [HRN.out (by first | trivial | rfl)] at hREF' hOK'
          have C0 := plain_any (p.rows) p.vars.toNat HN12.out hOK' hREF' _ W3.heap.size W3 rr3 (Nat.le_refl _) p.vars.toNat 0 0 [] (.slice none 0 0) W3 (by omega) (by simp) (by
            have : 2 ^ (p.vars.toNat + 1) ≤ 2 ^ 13 := Nat.pow_le_pow_right (by omega) (by have := HN12.out; omega)
            simp; omega) (Below.refl _ _) ⟨[], OwnR.nil _ _ _ _, rfl, fun i hi => by simp at hi⟩ (Nat.le_refl _)
          rw [show ((0 : Nat) : Int) = 0 from rfl, List.nil_append] at C0
          have HC0 := hide C0
          clear C0 hREF' hOK'
          refine HC0.out.mono ?_
          rintro e W5 ⟨v5, rfl, hS5, hE5⟩
          obtain ⟨a5, c5, e5⟩ := hS5.form
          generalize List.length _ = m5 at e5
          subst e5
          have hb5 := hE5.below (Nat.le_refl _)
          have bS5 := bS3.later hb5
          have bR5 := bR4.later hb5
          have hbw5 := below2 hbw4 hb5
          clear s0 s2
          have s0 := bS5.cell 0 rfl
          have s1 := bS5.cell 1 rfl
          have s2 := bS5.cell 2 rfl
          have s3 := bS5.cell 3 rfl
          have y3 := bS5.frozen 3
          have t0 := (bR5).cell 0 rfl
          have t1 := (bR5).cell 1 rfl
          have t2 := (bR5).cell 2 rfl
          have t3 := (bR5).cell 3 rfl
          have f0 := (bR5).frozen 0
          have f1 := (bR5).frozen 1
          have f2 := (bR5).frozen 2
          have f3 := (bR5).frozen 3
          go_wp2_with fail
          have bR6 := bR5.other hRne 3 (.slice a5 m5 c5)
          obtain ⟨x1, x2, -⟩ := set4 bR6 (.bool false) (.int .i64 bs) (.int .i64 bg) (.slice a5 m5 c5)
          have x3 := x2 _ _ (hbw5.setCell (p := ⟨W1.heap.size, 3, none⟩) (show w.heap.size ≤ W1.heap.size by omega) (.slice a5 m5 c5)) (by omega)
          have hK := (((((hS5.at.keeps (keeps_frm_set W5 (b := W1.heap.size) (by omega) 3 (.slice a5 m5 c5))).keeps (keeps_frm_set _ (b := w.heap.size + 1) (by omega) 0 (.bool false))).keeps (keeps_frm_set _ (b := w.heap.size + 1) (by omega) 1 (.int .i64 bs))).keeps (keeps_frm_set _ (b := w.heap.size + 1) (by omega) 2 (.int .i64 bg))).keeps (keeps_frm_set _ (b := w.heap.size + 1) (by omega) 3 (.slice a5 m5 c5)))
          generalize World.setCell (World.setCell _ _ _) ⟨w.heap.size + 1, 3, none⟩ _ = Wf at x1 x3 hK ⊢
          have w0 := x1.cell 0 rfl
          have w1 := x1.cell 1 rfl
          have w2 := x1.cell 2 rfl
          have w3 := x1.cell 3 rfl
          refine bodyPost_ret (v := .tuple #[.agg #[.bool false, .int .i64 bs, .int .i64 bg, .slice a5 m5 c5], .int .i64 0]) (by simp [results, Try.results11, go_sem, w0, w1, w2, w3]) rfl ?_
          exact ⟨_, _, rfl, ⟨⟨_, by rw [HSV.out], by rw [HSV.out, HRN.out (by first | trivial | rfl)]; exact hK.keeps (keeps_frm_le _ (by omega))⟩, by rw [HE1.out]⟩, x3⟩
        · have hbd := HBD.out
          have hbd1 : -12000000000 ≤ bg := hbd.1
          have hbd2 : bg ≤ 12000000000 := hbd.2
          have hwr1 : W1.heap.size < wr.heap.size := by omega
          have C := goalr_any p.vars.toNat p.gain (.slice ra p.rows.length rc) _ bg W3 (HG0.below hbw3) HGL.out HGC.out (by omega) (by omega)
          rw [Int.toNat_of_nonneg v0] at C
          have HC := hide C
          clear C hbd p30 p31 p32 p1 lP
          refine HC.out.mono ?_
          rintro e W4 ⟨b7, hb7, rfl, hB7, hbb⟩
          have hO4 := hO3.later' (below2 hbb (bal W4 (.cells (rowCells (goalF p.gain bg) (.slice (some ⟨b7, 0, none⟩) p.gain.length p.gain.length)).toArray 67)))
          have hz34 := hb3.size
          have hz4 := hbb.size
          go_wp2_with (at_builtin; refine app_recs infoRow rfl (by decide) Try.underlying24 rfl _ _ rfl wr.heap.size _ Lr rfl hO4 (some ⟨W4.heap.size, 0, none⟩) 1 1 [rowCells (goalF p.gain bg) (.slice (some ⟨b7, 0, none⟩) p.gain.length p.gain.length)] rfl rfl (fun r hr => by simp at hr; rw [hr]; rfl) (fun u hu => by simp only [List.flatten_cons, List.flatten_nil, List.append_nil] at hu; exact rowCells_one u hu) (news2 (Blk.newA W4 _ rfl)) (fun h => by cases h) (by simp only [List.length_singleton]; omega) (by simp only [List.length_singleton]; omega) (by simp; omega) ?_; intro v5 WG hO5 hg5; obtain ⟨a6, c6, rfl⟩ := own_form hO5 (n := p.rows.length + 1) (by rw [List.length_append, HLl.out]; rfl))
          have hbX := below_own hO4 (by simp; omega) hg5
          have h4 := below2 hbb (bal W4 (.cells (rowCells (goalF p.gain bg) (.slice (some ⟨b7, 0, none⟩) p.gain.length p.gain.length)).toArray 67))
          have rrG := goal_rows HLl.out HGL.out HLs.out (hb3.trans (h4.mono hb3.size)) hO4 (hB7.later (bal W4 _)) hO5 hg5
          have bSG := (bS3.later h4).below hbX hwr1
          have bR4 := (bR3.later h4).below hbX (by omega)
          have hbw4 := hbwr.trans (((hb3.trans (h4.mono hb3.size)).trans hbX).mono (by have := hbwr.size; omega))
          have hltG := bSG.lt
          clear hlt3 bS3 bR3 hO4 hO5 hO3 hg5 h4 hbX
          have hREF' := HREF.out
          have hOK' := HOK.out
          rw [HRY.out (by first | trivial | rfl)] at hREF' hOK'
          have C0 := plain_any (p.rows ++ [goalF p.gain bg]) p.vars.toNat HN12.out hOK' hREF' _ WG.heap.size WG rrG (Nat.le_refl _) p.vars.toNat 0 0 [] (.slice none 0 0) WG (by omega) (by simp) (by
            have : 2 ^ (p.vars.toNat + 1) ≤ 2 ^ 13 := Nat.pow_le_pow_right (by omega) (by have := HN12.out; omega)
            simp; omega) (Below.refl _ _) ⟨[], OwnR.nil _ _ _ _, rfl, fun i hi => by simp at hi⟩ (Nat.le_refl _)
          rw [show ((0 : Nat) : Int) = 0 from rfl, List.nil_append] at C0
          have HC0 := hide C0
          clear C0 hREF' hOK'
          refine HC0.out.mono ?_
          rintro e W5 ⟨v5, rfl, hS5, hE5⟩
          obtain ⟨a5, c5, e5⟩ := hS5.form
          generalize List.length _ = m5 at e5
          subst e5
          have hb5 := hE5.below (Nat.le_refl _)
          have bS5 := bSG.later hb5
          have bR5 := bR4.later hb5
          have hbw5 := below2 hbw4 hb5
          clear s0 s2
          have s0 := bS5.cell 0 rfl
          have s1 := bS5.cell 1 rfl
          have s2 := bS5.cell 2 rfl
          have s3 := bS5.cell 3 rfl
          have y3 := bS5.frozen 3
          have t0 := (bR5).cell 0 rfl
          have t1 := (bR5).cell 1 rfl
          have t2 := (bR5).cell 2 rfl
          have t3 := (bR5).cell 3 rfl
          have f0 := (bR5).frozen 0
          have f1 := (bR5).frozen 1
          have f2 := (bR5).frozen 2
          have f3 := (bR5).frozen 3
          go_wp2_with fail
          have bR6 := bR5.other hRne 3 (.slice a5 m5 c5)
          obtain ⟨x1, x2, -⟩ := set4 bR6 (.bool true) (.int .i64 bs) (.int .i64 bg) (.slice a5 m5 c5)
          have x3 := x2 _ _ (hbw5.setCell (p := ⟨W1.heap.size, 3, none⟩) (show w.heap.size ≤ W1.heap.size by omega) (.slice a5 m5 c5)) (by omega)
          have hK := (((((hS5.at.keeps (keeps_frm_set W5 (b := W1.heap.size) (by omega) 3 (.slice a5 m5 c5))).keeps (keeps_frm_set _ (b := w.heap.size + 1) (by omega) 0 (.bool true))).keeps (keeps_frm_set _ (b := w.heap.size + 1) (by omega) 1 (.int .i64 bs))).keeps (keeps_frm_set _ (b := w.heap.size + 1) (by omega) 2 (.int .i64 bg))).keeps (keeps_frm_set _ (b := w.heap.size + 1) (by omega) 3 (.slice a5 m5 c5)))
          generalize World.setCell (World.setCell _ _ _) ⟨w.heap.size + 1, 3, none⟩ _ = Wf at x1 x3 hK ⊢
          have w0 := x1.cell 0 rfl
          have w1 := x1.cell 1 rfl
          have w2 := x1.cell 2 rfl
          have w3 := x1.cell 3 rfl
          refine bodyPost_ret (v := .tuple #[.agg #[.bool true, .int .i64 bs, .int .i64 bg, .slice a5 m5 c5], .int .i64 0]) (by simp [results, Try.results11, go_sem, w0, w1, w2, w3]) rfl ?_
          exact ⟨_, _, rfl, ⟨⟨_, by rw [HSV.out], by rw [HSV.out, HRY.out (by first | trivial | rfl)]; exact hK.keeps (keeps_frm_le _ (by omega))⟩, by rw [HE1.out]⟩, x3⟩
      · rw [show (((j + 1 : Nat) : Int) - 1) = (j : Int) from by omega]
        obtain ⟨b, o, rfl, hck⟩ := HLC.out j (by omega)
        rw [mapN_getD] at hck
        have HDN := hide (bestDown_step (g := p.gain) (l := GL) (i := j) (by omega))
        have hjl : decide (j < GL.length) = true := by simp; omega
        have hjl2 : j < GL.length := by omega
        generalize GL.getD j 0 = x at hck HDN
        have hlb : b < W1.heap.size := lt_of_cell hck
        have hbne : b ≠ W1.heap.size := Nat.ne_of_lt hlb
        have hbne' : W1.heap.size ≠ b := Ne.symm hbne
        have ck := bwc (keep hbr hck)
        have p2 := bwc ((bP1.later hbr).cell 2 rfl)
        have hbwr := below2 hbw1 hbr
        have HCALL := hide (fun (i : Bw wr.heap.size wr) => total_any p.gain x _ i.W (HG0.below (below2 hbwr i.h)) HGL.out HGC.out)
        have HST := hide (best_step p.gain x (bestDown p.gain (GL.drop (j + 1))))
        generalize bestDown p.gain (GL.drop (j + 1)) = bb at hS HDN HST
        generalize chosenF p.gain x = cg at HCALL HST
        clear hck
        go_wp2_with fail
        refine wp_region_bw (by kernel_rfl) (by kernel_rfl) ?_
        repeat (go_big_quiet_step (with_reducible exact quiet (HCALL.out _)))
        refine wpQuiet_nil ?_
        rintro _ ⟨i, rfl⟩
        have hSI := hS.later i.h
        have hbI := bwb i hbr (by omega)
        have hzI : W2.heap.size ≤ i.W.heap.size := by have := i.h.size; omega
        have ckI := ck i
        clear ck p2
        generalize i.W = WI at *
        obtain ⟨bf, bs, bg⟩ := bb
        cases bf
        · have hst : downStep p.gain x ⟨false, bs, bg⟩ = ⟨true, x, cg⟩ := by rw [HST.out]; rfl
          replace HST := hide hst
          clear hst
          have s0 := hSI.cell 0 rfl
          have s1 := hSI.cell 1 rfl
          have s2 := hSI.cell 2 rfl
          have z0 := hSI.frozen 0
          have z1 := hSI.frozen 1
          have z2 := hSI.frozen 2
          go_wp2_with fail
          go_roundw
          case rel => exact ⟨j, by omega, rfl, by rw [HDN.out, HST.out]; exact ((hSI.set 0 _).set 1 _).set 2 _, ((hbI.setCell (p := ⟨W1.heap.size, 0, none⟩) (Nat.le_refl _) _).setCell (p := ⟨W1.heap.size, 1, none⟩) (Nat.le_refl _) _).setCell (p := ⟨W1.heap.size, 2, none⟩) (Nat.le_refl _) _, by simpa [World.setCell] using hzI⟩
          case measure => simp [intOf]
        · by_cases hlt : cg < bg
          · have hst : downStep p.gain x ⟨true, bs, bg⟩ = ⟨true, bs, bg⟩ := by rw [HST.out, if_pos (by simp [hlt])]
            replace HST := hide hst
            clear hst
            have hge : ¬ bg ≤ cg := by omega
            have s0 := hSI.cell 0 rfl
            have s1 := hSI.cell 1 rfl
            have s2 := hSI.cell 2 rfl
            go_wp2_with fail
            go_roundw
            case rel => exact ⟨j, by omega, rfl, by rw [HDN.out, HST.out]; exact hSI, hbI, hzI⟩
            case measure => simp [intOf]
          · have hst : downStep p.gain x ⟨true, bs, bg⟩ = ⟨true, x, cg⟩ := by rw [HST.out, if_neg (by simp; try omega)]
            replace HST := hide hst
            clear hst
            have hge : bg ≤ cg := by omega
            have s0 := hSI.cell 0 rfl
            have s1 := hSI.cell 1 rfl
            have s2 := hSI.cell 2 rfl
            have z0 := hSI.frozen 0
            have z1 := hSI.frozen 1
            have z2 := hSI.frozen 2
            go_wp2_with fail
            go_roundw
            case rel => exact ⟨j, by omega, rfl, by rw [HDN.out, HST.out]; exact ((hSI.set 0 _).set 1 _).set 2 _, ((hbI.setCell (p := ⟨W1.heap.size, 0, none⟩) (Nat.le_refl _) _).setCell (p := ⟨W1.heap.size, 1, none⟩) (Nat.le_refl _) _).setCell (p := ⟨W1.heap.size, 2, none⟩) (Nat.le_refl _) _, by simpa [World.setCell] using hzI⟩
            case measure => simp [intOf]
end Go.Proofs.Ytppfdjjhloaopaa
/- The laws' arguments opened: what the laws of this seat share. No condition. -/
namespace Go.Proofs.Ytppfdjjhloaopaa
open Go.ChangeShapes Go.WideShapes Go.ChangeAt Go.RowKit

theorem Try.own : ownKnob Try.prog.godebug = none := by kernel_rfl
theorem Try.laidOut : laidOutB Try.prog = true := by kernel_rfl
theorem Try.cells3 : Try.prog.cellsOf 3 = 1 := by kernel_rfl
theorem Try.cells65 : Try.prog.cellsOf 65 = 3 := by kernel_rfl
theorem Try.cells23 : Try.prog.cellsOf 23 = 8 := by kernel_rfl
/-- three cells as a triple -/
def TriR (cs : List Value) (t : Tri) : Prop := cs = [.int .i64 t.1, .int .i64 t.2.1, .int .i64 t.2.2] ∧ tri64 t
theorem tris_of {c : Addr → Option Value} {v : Value} {l : List Tri} (h : SliceR 3 TriR tri0 c v l) : TrisIn c v l ∧ ∀ t ∈ l, tri64 t := by
  obtain ⟨a, n, h1, h2, h3, h4⟩ := h
  refine ⟨⟨a, n, h1, h2, h3, fun k hk => ?_⟩, fun t ht => ?_⟩
  · obtain ⟨b, o, cs, e, -, ⟨rfl, -⟩, hc⟩ := h4 k hk
    exact ⟨b, o, e, hc 0 (by omega), hc 1 (by omega), hc 2 (by omega)⟩
  · obtain ⟨k, hk, rfl⟩ := List.getElem_of_mem ht
    obtain ⟨b, o, cs, e, -, ⟨-, h5⟩, -⟩ := h4 k hk
    rwa [List.getD_eq_getElem?_getD, List.getElem?_eq_getElem hk] at h5
section
variable {H : Type} {enc : TypeId × Value → H} {w : World} {base : Nat} {sp : Nat → Bool} {held : Bool}
set_option maxRecDepth 100000 in
theorem open_tris {r : Reach} {b0 : Nat} {v : Value} {d : DataW H} {ps : List MemPlace} (hv : Value.okWide Try.prog w r b0 22 v) (h : DataW.Trod enc Try.prog w base sp held 22 v d ps) :
    ∃ l, TrisIn w.cell? v l ∧ ∀ t ∈ l, tri64 t := by
  obtain ⟨l, hl⟩ := open_sliceR (R := TriR) tri0 (by decide) Try.underlying22 Try.cells65 (fun n y cs hc hy => by
    obtain ⟨l, h1, rfl, h3⟩ := trod_arr Try.underlying65 Try.underlying3 Try.cells3 Try.cells65 hy
    match l, h1 with
    | [a, b, c], _ => exact ⟨(a, b, c), rfl, h3 a (by simp), h3 b (by simp), h3 c (by simp)⟩) hv h
  exact ⟨l, tris_of hl⟩
set_option maxRecDepth 100000 in
theorem open_gains {r : Reach} {b0 : Nat} {v : Value} {d : DataW H} {ps : List MemPlace} (hv : Value.okWide Try.prog w r b0 23 v) (h : DataW.Trod enc Try.prog w base sp held 23 v d ps) :
    ∃ l : List Int, l.length = 8 ∧ v = .agg (l.map (Value.int .i64)).toArray ∧ ∀ x ∈ l, i64B x :=
  open_arr64 Try.underlying23 Try.underlying3 Try.cells3 Try.cells23 hv h
set_option maxRecDepth 100000 in
theorem open_i64 {r : Reach} {b0 : Nat} {v : Value} {d : DataW H} {ps : List MemPlace} (hv : Value.okWide Try.prog w r b0 3 v) (h : DataW.Trod enc Try.prog w base sp held 3 v d ps) :
    ∃ x : Int, v = .int .i64 x ∧ i64B x := by
  obtain ⟨n, h1, -, -, h4⟩ := open_int Try.underlying3 hv h
  exact ⟨n, h1, bounds_i64 h4⟩
end
end Go.Proofs.Ytppfdjjhloaopaa
/- A row and a program as arguments, opened. No condition. -/
namespace Go.Proofs.Ytppfdjjhloaopaa
open Go.ChangeShapes Go.WideShapes Go.ChangeAt Go.RowKit

set_option maxRecDepth 100000 in
theorem Try.cells67 : Try.prog.cellsOf 67 = 6 := by kernel_rfl
set_option maxRecDepth 100000 in
theorem Try.cells27 : Try.prog.cellsOf 27 = 3 := by kernel_rfl
set_option maxRecDepth 100000 in
theorem Try.cells25 : Try.prog.cellsOf 25 = 1 := by kernel_rfl
set_option maxRecDepth 100000 in
theorem Try.cells24 : Try.prog.cellsOf 24 = 1 := by kernel_rfl
def IntR (cs : List Value) (x : Int) : Prop := cs = [.int .i64 x]
set_option maxRecDepth 100000 in
theorem ints_slice {c : Addr → Option Value} {v : Value} {l : List Int} (h : SliceR 1 IntR 0 c v l) : IntsIn c v l := by
  obtain ⟨a, n, h1, h2, h3, h4⟩ := h
  refine ⟨a, n, h1, h2, h3, fun k hk => ?_⟩
  obtain ⟨b, o, cs, e, -, rfl, hc⟩ := h4 k hk
  have := hc 0 (by omega)
  rw [Nat.mul_one, Nat.add_zero] at this
  exact ⟨b, o, e, this⟩
section
variable {H : Type} {enc : TypeId × Value → H} {w : World} {base : Nat} {sp : Nat → Bool} {held : Bool}
set_option maxRecDepth 100000 in
theorem trod_fldP {P : Program} {fs : Array Field} {t : TypeId} {fuel : Nat} {cs : List Value} {x : DataW H × List MemPlace} (ht : P.underlying t = some (.struct fs)) (h : DataW.trod enc P w base sp held fuel t cs = some x) (i : Nat) (f : Field) (hf : fs[i]? = some f) :
    ∃ n y, DataW.trod enc P w base sp held n f.type ((cs.drop f.offset).take (P.cellsOf f.type)) = some y := by
  obtain ⟨xs, n, -, -, -, hlen, h1⟩ := DataW.trod_struct ht h
  have hi : i < fs.size := by
    rcases Array.getElem?_eq_some_iff.1 hf with ⟨hi, -⟩; exact hi
  exact ⟨n, xs[i], by rw [h1 i f hf, List.getElem?_eq_getElem (by omega)]⟩
set_option maxRecDepth 100000 in
theorem takeP {cs : List Value} {k : Nat} {v : Value} (h : (cs.drop k).take 1 = [v]) : cs[k]? = some v := by
  have : ((cs.drop k).take 1)[0]? = some v := by rw [h]; rfl
  rwa [List.getElem?_take_of_lt (by omega), List.getElem?_drop, Nat.add_zero] at this
set_option maxRecDepth 100000 in
theorem trod_ints {n : Nat} {y : DataW H × List MemPlace} {cs : List Value} (h : DataW.trod enc Try.prog w base sp held n 25 cs = some y) : ∃ v l, cs = [v] ∧ IntsAt w v l := by
  obtain ⟨v, l, e, hs⟩ := trod_sliceR (R := IntR) 0 (by decide) Try.underlying25 Try.cells3 (fun n y cs _ hy => by
    obtain ⟨x, h1, -⟩ := trod_i64 Try.underlying3 hy
    exact ⟨x, h1⟩) h
  exact ⟨v, l, e, ints_slice hs⟩
set_option maxRecDepth 100000 in
theorem open_ints {r : Reach} {b0 : Nat} {v : Value} {d : DataW H} {ps : List MemPlace} (hv : Value.okWide Try.prog w r b0 25 v) (h : DataW.Trod enc Try.prog w base sp held 25 v d ps) : ∃ l, IntsAt w v l := by
  obtain ⟨l, hs⟩ := open_sliceR (R := IntR) 0 (by decide) Try.underlying25 Try.cells3 (fun n y cs _ hy => by
    obtain ⟨x, h1, -⟩ := trod_i64 Try.underlying3 hy
    exact ⟨x, h1⟩) hv h
  exact ⟨l, ints_slice hs⟩
set_option maxRecDepth 100000 in
theorem trod_row {n : Nat} {y : DataW H × List MemPlace} {cs : List Value} (hl : cs.length = 6) (h : DataW.trod enc Try.prog w base sp held n 67 cs = some y) : ∃ r cv, cs = rowCells r cv ∧ IntsAt w cv r.coef := by
  obtain ⟨n0, y0, h0⟩ := trod_fldP Try.underlying67 h 0 _ rfl
  obtain ⟨n1, y1, h1⟩ := trod_fldP Try.underlying67 h 1 _ rfl
  obtain ⟨n2, y2, h2⟩ := trod_fldP Try.underlying67 h 2 _ rfl
  obtain ⟨n3, y3, h3⟩ := trod_fldP Try.underlying67 h 3 _ rfl
  obtain ⟨n4, y4, h4⟩ := trod_fldP Try.underlying67 h 4 _ rfl
  obtain ⟨n5, y5, h5⟩ := trod_fldP Try.underlying67 h 5 _ rfl
  obtain ⟨a0, e0, -⟩ := trod_i64 Try.underlying3 h0
  obtain ⟨a1, e1, -⟩ := trod_i64 Try.underlying3 h1
  obtain ⟨a2, e2, -⟩ := trod_i64 Try.underlying3 h2
  obtain ⟨a3, e3, -⟩ := trod_i64 Try.underlying3 h3
  obtain ⟨cv, l, e4, hi⟩ := trod_ints h4
  obtain ⟨a5, e5, -⟩ := trod_i64 Try.underlying3 h5
  have g0 := takeP (by rw [← Try.cells3]; exact e0)
  have g1 := takeP (by rw [← Try.cells3]; exact e1)
  have g2 := takeP (by rw [← Try.cells3]; exact e2)
  have g3 := takeP (by rw [← Try.cells3]; exact e3)
  have g4 := takeP (by rw [← Try.cells25]; exact e4)
  have g5 := takeP (by rw [← Try.cells3]; exact e5)
  match cs, hl with
  | [b0, b1, b2, b3, b4, b5], _ =>
    simp at g0 g1 g2 g3 g4 g5
    subst g0 g1 g2 g3 g4 g5
    exact ⟨⟨a0, a1, a2, a3, l, a5⟩, _, rfl, hi⟩
def RowR (w : World) (cs : List Value) (r : RowD) : Prop := ∃ cv, cs = rowCells r cv ∧ IntsAt w cv r.coef
set_option maxRecDepth 100000 in
theorem rows_slice {v : Value} {l : List RowD} (h : SliceR 6 (RowR w) row0 w.cell? v l) : RowsAt w v l := by
  obtain ⟨a, n, h1, h2, h3, h4⟩ := h
  refine ⟨a, n, h1, h2, h3, fun k hk => ?_⟩
  obtain ⟨b, o, cs, e, -, ⟨cv, rfl, hi⟩, hc⟩ := h4 k hk
  have c0 := hc 0 (by omega)
  rw [Nat.add_zero] at c0
  exact ⟨b, o, cv, e, c0, hc 1 (by omega), hc 2 (by omega), hc 3 (by omega), hc 4 (by omega), hc 5 (by omega), hi⟩
set_option maxRecDepth 100000 in
theorem open_row {r : Reach} {b0 : Nat} {v : Value} {d : DataW H} {ps : List MemPlace} (hv : Value.okWide Try.prog w r b0 67 v) (h : DataW.Trod enc Try.prog w base sp held 67 v d ps) :
    ∃ (q : RowD) (cv : Value), v = rowV q cv ∧ IntsAt w cv q.coef := by
  obtain ⟨cs, rfl, hsz⟩ : ∃ cs, v = .agg cs ∧ cs.size = Try.prog.cellsOf 67 := by
    simp only [Value.okWide, Try.underlying67] at hv
    obtain ⟨cs, h1, h2, -⟩ := hv
    exact ⟨cs, h1, h2⟩
  obtain ⟨m, hm⟩ := h
  rw [Try.cells67] at hsz
  obtain ⟨q, cv, e, hi⟩ := trod_row (by simpa [Value.cells] using hsz) hm
  refine ⟨q, cv, ?_, hi⟩
  show Value.agg cs = _
  congr 1
  exact Array.ext' (by simpa [Value.cells, rowCells] using e)
set_option maxRecDepth 100000 in
theorem open_prog {r : Reach} {b0 : Nat} {v : Value} {d : DataW H} {ps : List MemPlace} (hv : Value.okWide Try.prog w r b0 27 v) (h : DataW.Trod enc Try.prog w base sp held 27 v d ps) :
    ∃ (q : ProgD) (rv gv : Value), v = progV q rv gv ∧ RowsAt w rv q.rows ∧ IntsAt w gv q.gain := by
  obtain ⟨cs, rfl, hsz⟩ : ∃ cs, v = .agg cs ∧ cs.size = Try.prog.cellsOf 27 := by
    simp only [Value.okWide, Try.underlying27] at hv
    obtain ⟨cs, h1, h2, -⟩ := hv
    exact ⟨cs, h1, h2⟩
  obtain ⟨m, hm⟩ := h
  rw [Try.cells27] at hsz
  obtain ⟨n0, y0, h0⟩ := trod_fldP Try.underlying27 hm 0 _ rfl
  obtain ⟨n1, y1, h1⟩ := trod_fldP Try.underlying27 hm 1 _ rfl
  obtain ⟨n2, y2, h2⟩ := trod_fldP Try.underlying27 hm 2 _ rfl
  obtain ⟨a, e0, -⟩ := trod_i64 Try.underlying3 h0
  obtain ⟨rv, rl, e1, hrs⟩ := trod_sliceR (R := RowR w) row0 (by decide) Try.underlying24 Try.cells67 (fun n y cs hc hy => trod_row hc hy) h1
  obtain ⟨gv, gl, e2, hgs⟩ := trod_ints h2
  have g0 := takeP (by rw [← Try.cells3]; exact e0)
  have g1 := takeP (by rw [← Try.cells24]; exact e1)
  have g2 := takeP (by rw [← Try.cells25]; exact e2)
  obtain ⟨b0, b1, b2, hcs⟩ : ∃ b0 b1 b2, cs.toList = [b0, b1, b2] := by
    match hh : cs.toList, (show cs.toList.length = 3 by simpa using hsz) with
    | [x, y, z], _ => exact ⟨_, _, _, rfl⟩
  simp only [Value.cells, hcs] at g0 g1 g2
  simp at g0 g1 g2
  subst g0 g1 g2
  refine ⟨⟨a, rl, gl⟩, _, _, ?_, rows_slice hrs, hgs⟩
  show Value.agg cs = _
  congr 1
  exact Array.ext' hcs
end
end Go.Proofs.Ytppfdjjhloaopaa
/- Steps of a proof and pairs of changes as arguments, opened. No condition. -/
namespace Go.Proofs.Ytppfdjjhloaopaa
open Go.ChangeShapes Go.WideShapes Go.ChangeAt Go.RowKit

set_option maxRecDepth 100000 in
theorem Try.cells56 : Try.prog.cellsOf 56 = 2 := by kernel_rfl
set_option maxRecDepth 100000 in
theorem Try.cells54 : Try.prog.cellsOf 54 = 4 := by kernel_rfl
set_option maxRecDepth 100000 in
theorem Try.cells52 : Try.prog.cellsOf 52 = 1 := by kernel_rfl
set_option maxRecDepth 100000 in
theorem Try.cells28 : Try.prog.cellsOf 28 = 4 := by kernel_rfl
set_option maxRecDepth 100000 in
theorem Try.cells29 : Try.prog.cellsOf 29 = 8 := by kernel_rfl
def WtR (cs : List Value) (p : Int × Int) : Prop := cs = [.int .i64 p.1, .int .i64 p.2]
def StR (w : World) (cs : List Value) (s : StepD) : Prop := ∃ wv, cs = [.int .i64 s.var, .int .i64 s.no, .int .i64 s.yes, wv] ∧ WtsIn w.cell? wv s.wts
set_option maxRecDepth 100000 in
theorem wts_slice {c : Addr → Option Value} {v : Value} {l : List (Int × Int)} (h : SliceR 2 WtR (0, 0) c v l) : WtsIn c v l := by
  obtain ⟨a, n, h1, h2, h3, h4⟩ := h
  refine ⟨a, n, h1, h2, h3, fun k hk => ?_⟩
  obtain ⟨b, o, cs, e, -, rfl, hc⟩ := h4 k hk
  have c0 := hc 0 (by omega)
  rw [Nat.add_zero] at c0
  exact ⟨b, o, e, c0, hc 1 (by omega)⟩
set_option maxRecDepth 100000 in
theorem steps_slice {w : World} {v : Value} {l : List StepD} (h : SliceR 4 (StR w) st0 w.cell? v l) : StepsIn w.cell? v l := by
  obtain ⟨a, n, h1, h2, h3, h4⟩ := h
  refine ⟨a, n, h1, h2, h3, fun k hk => ?_⟩
  obtain ⟨b, o, cs, e, -, ⟨wv, rfl, hw⟩, hc⟩ := h4 k hk
  have c0 := hc 0 (by omega)
  rw [Nat.add_zero] at c0
  exact ⟨b, o, wv, e, c0, hc 1 (by omega), hc 2 (by omega), hc 3 (by omega), hw⟩
section
variable {H : Type} {enc : TypeId × Value → H} {w : World} {base : Nat} {sp : Nat → Bool} {held : Bool}
set_option maxRecDepth 100000 in
theorem trod_wt {n : Nat} {y : DataW H × List MemPlace} {cs : List Value} (hl : cs.length = 2) (h : DataW.trod enc Try.prog w base sp held n 56 cs = some y) : ∃ p, WtR cs p := by
  obtain ⟨n0, y0, h0⟩ := trod_fldP Try.underlying56 h 0 _ rfl
  obtain ⟨n1, y1, h1⟩ := trod_fldP Try.underlying56 h 1 _ rfl
  obtain ⟨a0, e0, -⟩ := trod_i64 Try.underlying3 h0
  obtain ⟨a1, e1, -⟩ := trod_i64 Try.underlying3 h1
  have g0 := takeP (by rw [← Try.cells3]; exact e0)
  have g1 := takeP (by rw [← Try.cells3]; exact e1)
  match cs, hl with
  | [b0, b1], _ =>
    simp at g0 g1
    subst g0 g1
    exact ⟨(a0, a1), rfl⟩
set_option maxRecDepth 100000 in
theorem trod_wts {n : Nat} {y : DataW H × List MemPlace} {cs : List Value} (h : DataW.trod enc Try.prog w base sp held n 52 cs = some y) : ∃ v l, cs = [v] ∧ WtsIn w.cell? v l := by
  obtain ⟨v, l, e, hs⟩ := trod_sliceR (R := WtR) (0, 0) (by decide) Try.underlying52 Try.cells56 (fun n y cs hc hy => trod_wt hc hy) h
  exact ⟨v, l, e, wts_slice hs⟩
set_option maxRecDepth 100000 in
theorem trod_step {n : Nat} {y : DataW H × List MemPlace} {cs : List Value} (hl : cs.length = 4) (h : DataW.trod enc Try.prog w base sp held n 54 cs = some y) : ∃ s, StR w cs s := by
  obtain ⟨n0, y0, h0⟩ := trod_fldP Try.underlying54 h 0 _ rfl
  obtain ⟨n1, y1, h1⟩ := trod_fldP Try.underlying54 h 1 _ rfl
  obtain ⟨n2, y2, h2⟩ := trod_fldP Try.underlying54 h 2 _ rfl
  obtain ⟨n3, y3, h3⟩ := trod_fldP Try.underlying54 h 3 _ rfl
  obtain ⟨a0, e0, -⟩ := trod_i64 Try.underlying3 h0
  obtain ⟨a1, e1, -⟩ := trod_i64 Try.underlying3 h1
  obtain ⟨a2, e2, -⟩ := trod_i64 Try.underlying3 h2
  obtain ⟨wv, l, e3, hi⟩ := trod_wts h3
  have g0 := takeP (by rw [← Try.cells3]; exact e0)
  have g1 := takeP (by rw [← Try.cells3]; exact e1)
  have g2 := takeP (by rw [← Try.cells3]; exact e2)
  have g3 := takeP (by rw [← Try.cells52]; exact e3)
  match cs, hl with
  | [b0, b1, b2, b3], _ =>
    simp at g0 g1 g2 g3
    subst g0 g1 g2 g3
    exact ⟨⟨a0, a1, a2, l⟩, _, rfl, hi⟩
set_option maxRecDepth 100000 in
theorem open_steps {r : Reach} {b0 : Nat} {v : Value} {d : DataW H} {ps : List MemPlace} (hv : Value.okWide Try.prog w r b0 30 v) (h : DataW.Trod enc Try.prog w base sp held 30 v d ps) : ∃ l, StepsIn w.cell? v l := by
  obtain ⟨l, hs⟩ := open_sliceR (R := StR w) st0 (by decide) Try.underlying30 Try.cells54 (fun n y cs hc hy => trod_step hc hy) hv h
  exact ⟨l, steps_slice hs⟩
set_option maxRecDepth 100000 in
theorem open_step {r : Reach} {b0 : Nat} {v : Value} {d : DataW H} {ps : List MemPlace} (hv : Value.okWide Try.prog w r b0 54 v) (h : DataW.Trod enc Try.prog w base sp held 54 v d ps) :
    ∃ (s : StepD) (wv : Value), v = .agg #[.int .i64 s.var, .int .i64 s.no, .int .i64 s.yes, wv] ∧ WtsIn w.cell? wv s.wts := by
  obtain ⟨cs, rfl, hsz⟩ : ∃ cs, v = .agg cs ∧ cs.size = Try.prog.cellsOf 54 := by
    simp only [Value.okWide, Try.underlying54] at hv
    obtain ⟨cs, h1, h2, -⟩ := hv
    exact ⟨cs, h1, h2⟩
  obtain ⟨m, hm⟩ := h
  rw [Try.cells54] at hsz
  obtain ⟨s, wv, e, hi⟩ := trod_step (by simpa [Value.cells] using hsz) hm
  refine ⟨s, wv, ?_, hi⟩
  show Value.agg cs = _
  congr 1
  exact Array.ext' (by simpa [Value.cells] using e)
set_option maxRecDepth 100000 in
theorem open_four {r : Reach} {b0 : Nat} {v : Value} {d : DataW H} {ps : List MemPlace} (hv : Value.okWide Try.prog w r b0 28 v) (h : DataW.Trod enc Try.prog w base sp held 28 v d ps) :
    ∃ l : List Int, l.length = 4 ∧ v = .agg (l.map (Value.int .i64)).toArray ∧ ∀ x ∈ l, i64B x :=
  open_arr64 Try.underlying28 Try.underlying3 Try.cells3 Try.cells28 hv h
set_option maxRecDepth 100000 in
theorem open_bend2 {r : Reach} {b0 : Nat} {v : Value} {d : DataW H} {ps : List MemPlace} (hv : Value.okWide Try.prog w r b0 29 v) (h : DataW.Trod enc Try.prog w base sp held 29 v d ps) :
    ∃ z1 z2 : List Int, v = .agg ((z1 ++ z2).map (Value.int .i64)).toArray ∧ z1.length = 4 ∧ (∀ y ∈ z1, i64B y) ∧ z2.length = 4 ∧ ∀ y ∈ z2, i64B y := by
  obtain ⟨cs, rfl, hsz⟩ : ∃ cs, v = .agg cs ∧ cs.size = Try.prog.cellsOf 29 := by
    simp only [Value.okWide, Try.underlying29] at hv
    obtain ⟨cs, h1, h2, -⟩ := hv
    exact ⟨cs, h1, h2⟩
  obtain ⟨m, hm⟩ := h
  rw [Try.cells29] at hsz
  obtain ⟨xs, n, -, -, -, hn, hel⟩ := DataW.trod_array Try.underlying29 hm
  have h0 := hel 0 (by omega)
  have h1 := hel 1 (by omega)
  rw [Try.cells28] at h0 h1
  obtain ⟨u0, u1, rfl⟩ : ∃ u0 u1, xs = [u0, u1] := by
    match xs, hn with
    | [x, y], _ => exact ⟨_, _, rfl⟩
  obtain ⟨l1, k1, e1, f1⟩ := trod_arr Try.underlying28 Try.underlying3 Try.cells3 Try.cells28 h0
  obtain ⟨l2, k2, e2, f2⟩ := trod_arr Try.underlying28 Try.underlying3 Try.cells3 Try.cells28 h1
  refine ⟨l1, l2, ?_, k1, f1, k2, f2⟩
  show Value.agg cs = _
  congr 1
  refine Array.ext' ?_
  show cs.toList = (l1 ++ l2).map (Value.int .i64)
  rw [List.map_append, ← e1, ← e2]
  have h8 : cs.toList.length = 8 := by simpa using hsz
  simp only [Value.cells]
  generalize cs.toList = L at h8
  match L, h8 with
  | [a, b, c, d, e, f, g, h], _ => rfl
end
end Go.Proofs.Ytppfdjjhloaopaa
/- What the walks of the laws over a program share. No condition. -/
namespace Go.Proofs.Ytppfdjjhloaopaa
open Go.RowKit

theorem TrisIn.keeps {c c' : Rd} {v : Value} {l : List Tri} (hk : Keeps c c') (h : TrisIn c v l) : TrisIn c' v l := by
  obtain ⟨a, n, h1, h2, h3, h4⟩ := h
  exact ⟨a, n, h1, h2, h3, fun k hl => let ⟨b, o, e, c0, c1, c2⟩ := h4 k hl; ⟨b, o, e, hk _ _ c0, hk _ _ c1, hk _ _ c2⟩⟩
theorem made_form (v : Int) (x : List Tri) (g : List Int) : ∃ (n : Nat) (rows : List RowD) (gain : List Int), madeF v x g = ⟨n, rows, gain⟩ ∧ n ≤ 8 ∧ rows.length ≤ 8 ∧ validB ⟨n, rows, gain⟩ = true :=
  ⟨mvars v, _, _, rfl, mvars_le v, by rw [mrows_len]; omega, made_valid v x g⟩
end Go.Proofs.Ytppfdjjhloaopaa
/- Walk of check of package proof, its deferred closure, and what leans on it. Conditions: how the program and the proof lie in memory; sizes. -/
namespace Go.Proofs.Ytppfdjjhloaopaa
open Go.RowKit

theorem run_wrong (k : Int) (w : World) : (Instr.typeAssert (wrongV k) 20 97 true).run Try.prog w = .ok (.tuple #[.agg #[.int .i64 k], .bool true]) w := by kernel_rfl
theorem run_nowrong (w : World) : (Instr.typeAssert .nilIface 20 97 true).run Try.prog w = .ok (.tuple #[.agg #[.int .i64 0], .bool false]) w := by kernel_rfl
set_option maxRecDepth 20000 in
theorem catch_panic (BA BU : Nat) (x k : Int) (mv : Value) (older : List PanicEntry) (w : World) (hA : Blk w BA [.int .i64 x] 3) (hU : Blk w BU [mv] 76) (hne : BA ≠ BU) :
    CallsD Try.prog 59 #[.pointer (some ⟨BA, 0, none⟩), .pointer (some ⟨BU, 0, none⟩)] (.panicking ({ v := wrongV k, recovered := false } :: older)) w fun e u' w' =>
      e = .returned (.tuple #[]) ∧ u' = .panicking ({ v := wrongV k, recovered := true } :: older) ∧ w' = ((w.alloc (.cells #[.int .i64 k] 97)).setCell ⟨BA, 0, none⟩ (.int .i64 k)).setCell ⟨BU, 0, none⟩ (.map none) := by
  refine callsD_of_wpS Try.func59 rfl fun c₀ cs hu => ?_
  have a0 := hA.cell 0 rfl
  have f0 := hA.frozen 0
  have b0 := hU.cell 0 rfl
  have g0 := hU.frozen 0
  apply wpS_seq
  apply wpS_region
  have h1 := run_wrong k w
  have n0 : Try.f59.ntmps = 12 := rfl
  simp only [n0, List.size_toArray, List.length_cons, List.length_nil, Nat.reduceAdd, Nat.reduceSub, Array.replicate_succ, Array.replicate_zero, List.push_toArray, List.append_toArray, List.nil_append, List.cons_append]
  simp [wpOpsS, go_sem, recoverD, hu, Exit.thenS, h1]
  have hb := bal w (.cells #[.int .i64 k] 97)
  have bW : Blk (w.alloc (.cells #[.int .i64 k] 97)) w.heap.size [.int .i64 k] 97 := Blk.new w _ _
  have hA1 := hA.later hb
  have hU1 := hU.later hb
  generalize World.alloc w _ = W1 at *
  have a1 := hA1.cell 0 rfl
  have f1 := hA1.frozen 0
  have hU2 := hU1.other (show BU ≠ BA from hne.symm) 0 (.int .i64 k)
  have b1 := hU2.cell 0 rfl
  have g1 := hU2.frozen 0
  have c1 := bW.cell 0 rfl
  clear a0 f0 b0 g0
  apply wpS_seq
  apply wpS_region
  simp [wpOpsS, go_sem, Exit.thenS]
  refine wpS_cond (t := true) (by simp [Act.eval]) ?_
  simp only [if_true]
  apply wpS_region
  simp [wpOpsS, go_sem, c1, a1, f1, b1, g1, bodyPostS, results, Try.results59]
theorem catch_none (BA BU : Nat) (w : World) :
    CallsD Try.prog 59 #[.pointer (some ⟨BA, 0, none⟩), .pointer (some ⟨BU, 0, none⟩)] .returning w fun e u' w' => e = .returned (.tuple #[]) ∧ u' = .returning ∧ w' = w.alloc (.cells #[.int .i64 0] 97) := by
  refine callsD_of_wpS Try.func59 rfl fun c₀ cs hu => ?_
  apply wpS_seq
  apply wpS_region
  have h1 := run_nowrong w
  have n0 : Try.f59.ntmps = 12 := rfl
  simp only [n0, List.size_toArray, List.length_cons, List.length_nil, Nat.reduceAdd, Nat.reduceSub, Array.replicate_succ, Array.replicate_zero, List.push_toArray, List.append_toArray, List.nil_append, List.cons_append]
  simp [wpOpsS, go_sem, recoverD, hu, Exit.thenS, h1]
  apply wpS_seq
  apply wpS_region
  simp [wpOpsS, go_sem, Exit.thenS]
  refine wpS_cond (t := false) (by simp [Act.eval]) ?_
  simp only [Bool.false_eq_true, if_false]
  refine wpS_of_wp (wp_skip ?_)
  cases c₀
  simp_all [bodyPostS, results, Try.results59]
/-- the first step of a proof that is wrong, as check finds it -/
def checkF (p : ProgD) (rows : List RowD) (l : List StepD) : Int :=
  if validB p && decide (l.length ≤ 8192) then (if l.length = 0 then 0 else wrongF rows l l.length 0 (List.replicate p.vars.toNat (-1))) else -2
def CheckQ (at_ : Int) (us : List Int) (w : World) (e : Ending) (w' : World) : Prop :=
  Below w.heap.size w w' ∧ ∃ mv : Option Nat, e = .returned (.tuple #[.int .i64 at_, .map mv]) ∧ (at_ = -1 → ∃ b, mv = some b ∧ OwnM w' b 900000 us) ∧ (at_ ≠ -1 → mv = none)
theorem run_mkmap (W : World) : (Instr.makeMap 76 none).run Try.prog W = .ok (.map (some W.heap.size)) (W.alloc (.map #[] 0)) := by
  simp [Instr.makeMap, go_sem]
set_option maxRecDepth 20000 in
set_option maxHeartbeats 2000000 in
theorem check_any (p : ProgD) (rv gv : Value) (rows : List RowD) (rv2 : Value) (l : List StepD) (sv : Value) (w : World) (hr : RowsAt w rv p.rows) (hg : IntsAt w gv p.gain) (hr2 : RowsAt w rv2 rows) (hs : StepsIn w.cell? sv l) (hrl : validB p = true → rows.length ≤ 1000) (hro : validB p = true → RowsOk rows p.vars.toNat) :
    Calls Try.prog 38 #[progV p rv gv, rv2, sv] w (CheckQ (checkF p rows l) (reachF l l.length 0) w) := by
  have hmk : ∀ W : World, (Instr.makeMap 76 none).run Try.prog W = .ok (.map (some W.heap.size)) (W.alloc (.map #[] 0)) := fun W => run_mkmap W
  have hmf : ∀ (fn : Fn) (first cap : Array Value) (w : World), (Instr.makeFunc fn first cap).run Try.prog w = .ok (.func fn first cap) w := fun _ _ _ _ => rfl
  obtain ⟨pa, pc, rfl, -, hpm, -⟩ := id hr
  obtain ⟨ga, gc, rfl, -, hgm, -⟩ := id hg
  obtain ⟨ra, rc, rfl, -, hrm, -⟩ := id hr2
  obtain ⟨sa, sc, rfl, hsn, hsm, -⟩ := id hs
  have hsl : (l.length : Int) ≤ 9223372036854775807 := by have : l.length ≤ sc := hsn; omega
  have HCF : Hid (checkF p rows l = if validB p && decide (l.length ≤ 8192) then (if l.length = 0 then 0 else wrongF rows l l.length 0 (List.replicate p.vars.toNat (-1))) else -2) := hide rfl
  generalize checkF p rows l = CF at HCF ⊢
  clear hpm hgm hrm hsm hsn
  cases hv : validB p
  · rw [hv] at HCF
    clear hro hrl
    have hcf : CF = -2 := by rw [HCF.out]; rfl
    subst hcf
    go_enter_defers Try.func38, Try.ntmps38
    go_wp2_with fail
    generalize hX1 : World.alloc w _ = X1
    have zX1 : X1.heap.size = w.heap.size + 1 := by rw [← hX1]; simp
    have bX1 : Below w.heap.size w X1 := by rw [← hX1]; exact bal w _
    have bP_1 : Blk X1 (w.heap.size) [.int .i64 p.vars, .slice pa p.rows.length pc, .slice ga p.gain.length gc] 27 := by rw [← hX1]; exact Blk.newA w _ (by first | rfl | simp)
    generalize hX2 : World.alloc X1 _ = X2
    have zX2 : X2.heap.size = w.heap.size + 1 + 1 := by rw [← hX2]; simp [zX1]
    have bX2 : Below X1.heap.size X1 X2 := by rw [← hX2]; exact bal X1 _
    have bA_2 : Blk X2 (w.heap.size + 1) [.int .i64 0] 3 := by rw [← hX2, ← zX1]; exact Blk.newA X1 _ (by first | rfl | simp)
    have bP_2 := bP_1.later bX2
    generalize hX3 : World.alloc X2 _ = X3
    have zX3 : X3.heap.size = w.heap.size + 1 + 1 + 1 := by rw [← hX3]; simp [zX2]
    have bX3 : Below X2.heap.size X2 X3 := by rw [← hX3]; exact bal X2 _
    have bU : Blk X3 (w.heap.size + 1 + 1) [.map none] 76 := by rw [← hX3, ← zX2]; exact Blk.newA X2 _ (by first | rfl | simp)
    have bP := bP_2.later bX3
    have bA := bA_2.later bX3
    have Xb := below2 (below2 (bX1) bX2) bX3
    have Xz := zX3
    clear hX1 zX1 bX1 hX2 zX2 bX2 hX3 zX3 bX3 bP_1 bP_2 bA_2
    refine (validp_any p _ _ X3 (hr.below Xb) (hg.below Xb)).mono ?_
    rw [hv]
    rintro e w1 ⟨rfl, hb1⟩
    have hw1 := below2 Xb hb1
    replace bP := bP.later hb1
    replace bA := bA.later hb1
    replace bU := bU.later hb1
    have p0 := bP.cell 0 rfl
    have a0 := bA.cell 0 rfl
    have fA := bA.frozen 0
    have bU1 := bU.other (show w.heap.size + 1 + 1 ≠ w.heap.size + 1 by omega) 0 (.int .i64 (-2))
    have u0 := bU.cell 0 rfl
    have u1 := bU1.cell 0 rfl
    have fU := bU1.frozen 0
    clear hv
    go_wp2_with fail
    have bU2 := bU1.set 0 (.map none)
    have bA2 := (bA.set 0 (.int .i64 (-2))).other (show w.heap.size + 1 ≠ w.heap.size + 1 + 1 by omega) 0 (.map none)
    have hw2 := (hw1.setCell (p := ⟨w.heap.size + 1, 0, none⟩) (show w.heap.size ≤ w.heap.size + 1 by omega) (.int .i64 (-2))).setCell (p := ⟨w.heap.size + 1 + 1, 0, none⟩) (show w.heap.size ≤ w.heap.size + 1 + 1 by omega) (.map none)
    generalize World.setCell (World.setCell w1 ⟨w.heap.size + 1, 0, none⟩ (.int .i64 (-2))) ⟨w.heap.size + 1 + 1, 0, none⟩ (.map none) = W2 at bU2 bA2 hw2 ⊢
    have y0 := bU2.cell 0 rfl
    have y1 := bA2.cell 0 rfl
    have hQ : CheckQ (-2) (reachF l l.length 0) w (.returned (.tuple #[.int .i64 (-2), .map none])) W2 := ⟨hw2, none, rfl, (fun h => by omega), fun _ => rfl⟩
    clear bU2 bA2 hw2 bU1 bA bU bP hw1 hb1
    simp [bodyPostD, Leaves, results, Try.results38, go_sem, y0, y1]
    exact hQ
  · by_cases hlen : l.length ≤ 8192
    · have hro := hro hv
      have hrl := hrl hv
      rw [hv] at HCF
      have HCG : Hid (CF = if l.length = 0 then 0 else wrongF rows l l.length 0 (List.replicate p.vars.toNat (-1))) := hide (by rw [HCF.out]; simp [hlen])
      have h8 : decide ((8192 : Int) < l.length) = false := decide_eq_false (by omega)
      have HVP := hide (show 0 ≤ p.vars ∧ p.vars ≤ 12 from ⟨(valid_parts hv).1, (valid_parts hv).2.1⟩)
      clear HCF
      by_cases hl0 : l.length = 0
      · have q0 : decide ((0 : Int) < l.length) = false := decide_eq_false (by omega)
        have hcf : CF = 0 := by rw [HCG.out, if_pos hl0]
        subst hcf
        clear HCG hl0 hro hlen
        go_enter_defers Try.func38, Try.ntmps38
        go_wp2_with fail
        generalize hX1 : World.alloc w _ = X1
        have zX1 : X1.heap.size = w.heap.size + 1 := by rw [← hX1]; simp
        have bX1 : Below w.heap.size w X1 := by rw [← hX1]; exact bal w _
        have bP_1 : Blk X1 (w.heap.size) [.int .i64 p.vars, .slice pa p.rows.length pc, .slice ga p.gain.length gc] 27 := by rw [← hX1]; exact Blk.newA w _ (by first | rfl | simp)
        generalize hX2 : World.alloc X1 _ = X2
        have zX2 : X2.heap.size = w.heap.size + 1 + 1 := by rw [← hX2]; simp [zX1]
        have bX2 : Below X1.heap.size X1 X2 := by rw [← hX2]; exact bal X1 _
        have bA_2 : Blk X2 (w.heap.size + 1) [.int .i64 0] 3 := by rw [← hX2, ← zX1]; exact Blk.newA X1 _ (by first | rfl | simp)
        have bP_2 := bP_1.later bX2
        generalize hX3 : World.alloc X2 _ = X3
        have zX3 : X3.heap.size = w.heap.size + 1 + 1 + 1 := by rw [← hX3]; simp [zX2]
        have bX3 : Below X2.heap.size X2 X3 := by rw [← hX3]; exact bal X2 _
        have bU : Blk X3 (w.heap.size + 1 + 1) [.map none] 76 := by rw [← hX3, ← zX2]; exact Blk.newA X2 _ (by first | rfl | simp)
        have bP := bP_2.later bX3
        have bA := bA_2.later bX3
        have Xb := below2 (below2 (bX1) bX2) bX3
        have Xz := zX3
        clear hX1 zX1 bX1 hX2 zX2 bX2 hX3 zX3 bX3 bP_1 bP_2 bA_2
        refine (validp_any p _ _ X3 (hr.below Xb) (hg.below Xb)).mono ?_
        rw [hv]
        rintro e w1 ⟨rfl, hb1⟩
        have hw1 := below2 Xb hb1
        replace bP := bP.later hb1
        replace bA := bA.later hb1
        replace bU := bU.later hb1
        have p0 := bP.cell 0 rfl
        have a0 := bA.cell 0 rfl
        have fA := bA.frozen 0
        have bU1 := bU.other (show w.heap.size + 1 + 1 ≠ w.heap.size + 1 by omega) 0 (.int .i64 (-2))
        have u0 := bU.cell 0 rfl
        have u1 := bU1.cell 0 rfl
        have fU := bU1.frozen 0
        clear hv
        go_wp2_with fail
        generalize hY1 : World.alloc w1 _ = Y1
        have z1 : Y1.heap.size = w1.heap.size + 1 := by rw [← hY1]; simp
        have bY1 : Below w1.heap.size w1 Y1 := by rw [← hY1]; exact bal w1 _
        have hM1 : OwnM Y1 w1.heap.size 0 [] := by rw [← hY1]; exact OwnM.made w1
        generalize hY2 : World.alloc Y1 _ = Y2
        have bY2 : Below Y1.heap.size Y1 Y2 := by rw [← hY2]; exact bal Y1 _
        have bC : Blk Y2 (w1.heap.size + 1) [.int .i64 p.vars, .slice ra rows.length rc, .slice sa l.length sc, .map (some w1.heap.size)] 101 := by rw [← hY2, ← z1]; exact Blk.newA Y1 _ rfl
        have hM := hM1.later bY2
        have hbY := below2 bY1 bY2
        have hwY := below2 hw1 hbY
        replace bA := bA.later hbY
        replace bU := bU.later hbY
        have hz1 := hw1.size
        have hAlt : w.heap.size + 1 + 1 < w1.heap.size := by have := hb1.size; omega
        clear hY1 hY2 z1 bY1 bY2 hM1 bU1 fU u1 u0 a0 fA p0 hb1 hbY Xz
        have q1 : decide (0 < l.length) = false := by simpa using q0
        rw [q1]
        refine (need_no _ _).mono ?_
        rintro e w2 ⟨rfl, hw⟩
        rw [hw]
        clear hw w2
        refine leaves_cons (f := 59) (args := #[.pointer (some ⟨w.heap.size + 1, 0, none⟩), .pointer (some ⟨w.heap.size + 1 + 1, 0, none⟩)]) (by simp) (by simp [go_sem]) ?_
        refine (catch_panic _ _ 0 0 _ [] Y2 bA bU (by omega)).mono ?_
        rintro e u' w9 ⟨rfl, rfl, hw9⟩
        have hb9 := bal Y2 (.cells #[.int .i64 0] 97)
        have bA9 := ((bA.later hb9).set 0 (.int .i64 0)).other (show w.heap.size + 1 ≠ w.heap.size + 1 + 1 by omega) 0 (.map none)
        have bU9 := ((bU.later hb9).other (show w.heap.size + 1 + 1 ≠ w.heap.size + 1 by omega) 0 (.int .i64 0)).set 0 (.map none)
        have hW9 := ((below2 hwY hb9).setCell (p := ⟨w.heap.size + 1, 0, none⟩) (show w.heap.size ≤ w.heap.size + 1 by omega) (.int .i64 0)).setCell (p := ⟨w.heap.size + 1 + 1, 0, none⟩) (show w.heap.size ≤ w.heap.size + 1 + 1 by omega) (.map none)
        rw [← hw9] at bA9 bU9 hW9
        have y0 := bU9.cell 0 rfl
        have y1 := bA9.cell 0 rfl
        clear hw9 bA9 bU9 hb9
        simp [Leaves, settle, results, Try.results38, go_sem, y0, y1]
        exact ⟨hW9, none, rfl, (fun h => by omega), fun _ => rfl⟩
      · have q1 : decide (0 < l.length) = true := decide_eq_true (by omega)
        have HCH : Hid (CF = wrongF rows l l.length 0 (List.replicate p.vars.toNat (-1))) := hide (by rw [HCG.out, if_neg hl0])
        have HL1 := hide (show 0 < l.length ∧ l.length ≤ 8192 from ⟨by omega, hlen⟩)
        have HRO := hide hro
        clear HCG hl0 hro hlen
        go_enter_defers Try.func38, Try.ntmps38
        go_wp2_with fail
        generalize hX1 : World.alloc w _ = X1
        have zX1 : X1.heap.size = w.heap.size + 1 := by rw [← hX1]; simp
        have bX1 : Below w.heap.size w X1 := by rw [← hX1]; exact bal w _
        have bP_1 : Blk X1 (w.heap.size) [.int .i64 p.vars, .slice pa p.rows.length pc, .slice ga p.gain.length gc] 27 := by rw [← hX1]; exact Blk.newA w _ (by first | rfl | simp)
        generalize hX2 : World.alloc X1 _ = X2
        have zX2 : X2.heap.size = w.heap.size + 1 + 1 := by rw [← hX2]; simp [zX1]
        have bX2 : Below X1.heap.size X1 X2 := by rw [← hX2]; exact bal X1 _
        have bA_2 : Blk X2 (w.heap.size + 1) [.int .i64 0] 3 := by rw [← hX2, ← zX1]; exact Blk.newA X1 _ (by first | rfl | simp)
        have bP_2 := bP_1.later bX2
        generalize hX3 : World.alloc X2 _ = X3
        have zX3 : X3.heap.size = w.heap.size + 1 + 1 + 1 := by rw [← hX3]; simp [zX2]
        have bX3 : Below X2.heap.size X2 X3 := by rw [← hX3]; exact bal X2 _
        have bU : Blk X3 (w.heap.size + 1 + 1) [.map none] 76 := by rw [← hX3, ← zX2]; exact Blk.newA X2 _ (by first | rfl | simp)
        have bP := bP_2.later bX3
        have bA := bA_2.later bX3
        have Xb := below2 (below2 (bX1) bX2) bX3
        have Xz := zX3
        clear hX1 zX1 bX1 hX2 zX2 bX2 hX3 zX3 bX3 bP_1 bP_2 bA_2
        refine (validp_any p _ _ X3 (hr.below Xb) (hg.below Xb)).mono ?_
        rw [hv]
        rintro e w1 ⟨rfl, hb1⟩
        have hw1 := below2 Xb hb1
        replace bP := bP.later hb1
        replace bA := bA.later hb1
        replace bU := bU.later hb1
        have p0 := bP.cell 0 rfl
        have a0 := bA.cell 0 rfl
        have fA := bA.frozen 0
        have bU1 := bU.other (show w.heap.size + 1 + 1 ≠ w.heap.size + 1 by omega) 0 (.int .i64 (-2))
        have u0 := bU.cell 0 rfl
        have u1 := bU1.cell 0 rfl
        have fU := bU1.frozen 0
        clear hv
        go_wp2_with fail
        generalize hY1 : World.alloc w1 _ = Y1
        have z1 : Y1.heap.size = w1.heap.size + 1 := by rw [← hY1]; simp
        have bY1 : Below w1.heap.size w1 Y1 := by rw [← hY1]; exact bal w1 _
        have hM1 : OwnM Y1 w1.heap.size 0 [] := by rw [← hY1]; exact OwnM.made w1
        generalize hY2 : World.alloc Y1 _ = Y2
        have bY2 : Below Y1.heap.size Y1 Y2 := by rw [← hY2]; exact bal Y1 _
        have bC : Blk Y2 (w1.heap.size + 1) [.int .i64 p.vars, .slice ra rows.length rc, .slice sa l.length sc, .map (some w1.heap.size)] 101 := by rw [← hY2, ← z1]; exact Blk.newA Y1 _ rfl
        have hM := hM1.later bY2
        have hbY := below2 bY1 bY2
        have hwY := below2 hw1 hbY
        replace bA := bA.later hbY
        replace bU := bU.later hbY
        have hz1 := hw1.size
        have hAlt : w.heap.size + 1 + 1 < w1.heap.size := by have := hb1.size; omega
        clear hY1 hY2 z1 bY1 bY2 hM1 bU1 fU u1 u0 a0 fA p0 hb1 hbY Xz
        refine (need_yes _ _).mono ?_
        rintro e w2 ⟨rfl, hw⟩
        rw [hw]
        clear hw w2
        have HWK : Hid (Calls Try.prog 61 #[.pointer (some ⟨w1.heap.size + 1, 0, none⟩), .int .i64 0, .agg #[.int .i64 0, .int .i64 0, .int .i64 0, .int .i64 0, .int .i64 0, .int .i64 0, .int .i64 0, .int .i64 0, .int .i64 0, .int .i64 0, .int .i64 0, .int .i64 0]] Y2 (WalkQ w1.heap.size 0 [] CF (8 * 2 ^ 12) (reachF l l.length 0) Y2)) := by
          have hvp := HVP.out
          have e1 : ((List.replicate p.vars.toNat (-1 : Int)).length : Int) = p.vars := by rw [List.length_replicate]; omega
          have h := walk_any rows l hrl (by have := HL1.out.2; omega) (w1.heap.size + 1) w1.heap.size (.slice ra rows.length rc) (.slice sa l.length sc) l.length 12 0 (List.replicate p.vars.toNat (-1)) 0 [] Y2 (by rw [List.length_replicate]; omega) (by rw [List.length_replicate]; exact HRO.out)
            (by have := List.countP_le_length (p := fun x : Int => decide (x < 0)) (l := List.replicate p.vars.toNat (-1)); rw [List.length_replicate] at this; unfold openN; omega) HL1.out.1 (by omega) (by omega) (by rw [e1]; exact bC) (hr2.below hwY) (hs.keeps (keeps_of_below hwY)) hM
          rw [encD_none, ← HCH.out] at h
          exact h
        have HCR : Hid (-1 ≤ CF) := hide (by rw [HCH.out]; exact wrongF_range _ _ _ _ _)
        go_wp2_with fail
        refine HWK.out.mono ?_
        rintro e w7 ⟨hg7, ⟨h1, rfl, hM7⟩ | ⟨h1, rfl⟩⟩
        · subst h1
          have bA7 : Blk w7 (w.heap.size + 1) _ _ := (hg7.block _ bA.lt (by simp; omega)).trans bA
          have bU7 : Blk w7 (w.heap.size + 1 + 1) _ _ := (hg7.block _ bU.lt (by simp; omega)).trans bU
          have bC7 : Blk w7 (w1.heap.size + 1) _ _ := (hg7.block _ bC.lt (by simp)).trans bC
          have hw7 := hwY.grown hg7 hwY.size (fun j hj => by cases hj; exact hw1.size)
          have y0 := bA7.cell 0 rfl
          have y1 := bA7.frozen 0
          have bU8 := bU7.other (show w.heap.size + 1 + 1 ≠ w.heap.size + 1 by omega) 0 (.int .i64 (-1))
          have y2 := bU8.cell 0 rfl
          have y3 := bU8.frozen 0
          have y4 := bC7.cell 3 rfl
          have y5 := bU7.cell 0 rfl
          have y6 := bU7.frozen 0
          clear HWK bC hM bA bU
          go_wp2_with fail
          go_region
          have bA8 := (bA7.set 0 (.int .i64 (-1))).other (show w.heap.size + 1 ≠ w.heap.size + 1 + 1 by omega) 0 (.map (some w1.heap.size))
          have bU9 := bU8.set 0 (.map (some w1.heap.size))
          have hM8 := (hM7.set (show w.heap.size + 1 ≠ w1.heap.size by omega) 0 (.int .i64 (-1))).set (show w.heap.size + 1 + 1 ≠ w1.heap.size by omega) 0 (.map (some w1.heap.size))
          have hw8 := ((hw7.setCell (p := ⟨w.heap.size + 1, 0, none⟩) (show w.heap.size ≤ w.heap.size + 1 by omega) (.int .i64 (-1))).setCell (p := ⟨w.heap.size + 1 + 1, 0, none⟩) (show w.heap.size ≤ w.heap.size + 1 + 1 by omega) (.map (some w1.heap.size))).drew
          obtain ⟨W8, hW8⟩ : ∃ W8, World.drew (World.setCell (World.setCell w7 ⟨w.heap.size + 1, 0, none⟩ (.int .i64 (-1))) ⟨w.heap.size + 1 + 1, 0, none⟩ (.map (some w1.heap.size))) = W8 := ⟨_, rfl⟩
          have hb9 := bal W8 (.cells #[.int .i64 0] 97)
          have hD1 : ∀ W b vs t, World.drew W = W8 → Blk W b vs t → Blk W8 b vs t := fun W b vs t e h => by rw [← e]; exact h
          have hD2 : ∀ W b n ks, World.drew W = W8 → OwnM W b n ks → OwnM W8 b n ks := fun W b n ks e h => by rw [← e]; exact h
          replace bA8 := hD1 _ _ _ _ hW8 bA8
          replace bU9 := hD1 _ _ _ _ hW8 bU9
          replace hM8 := hD2 _ _ _ _ hW8 hM8
          clear hD1 hD2
          rw [hW8] at hw8 ⊢
          replace bA8 := bA8.later hb9
          replace bU9 := bU9.later hb9
          replace hM8 := hM8.later hb9
          replace hw8 := below2 hw8 hb9
          clear hW8 bU8 bA7 bU7 bC7 hw7 y0 y1 y2 y3 y4 y5 y6 hM7 hg7
          go_wp2_with fail
          refine leaves_cons (f := 59) (args := #[.pointer (some ⟨w.heap.size + 1, 0, none⟩), .pointer (some ⟨w.heap.size + 1 + 1, 0, none⟩)]) (by simp) (by simp [go_sem]) ?_
          refine (catch_none _ _ W8).mono ?_
          rintro e u' w9 ⟨rfl, rfl, hw9⟩
          rw [← hw9] at bA8 bU9 hM8 hw8
          have y0 := bU9.cell 0 rfl
          have y1 := bA8.cell 0 rfl
          clear hw9 bA8 bU9 hb9
          simp [Leaves, settle, results, Try.results38, go_sem, y0, y1]
          exact ⟨hw8, some w1.heap.size, rfl, fun _ => ⟨_, rfl, by have := hM8.mono (m := 900000) (by omega); simpa using this⟩, fun h => absurd rfl h⟩
        · have bA7 : Blk w7 (w.heap.size + 1) _ _ := (hg7.block _ bA.lt (by simp; omega)).trans bA
          have bU7 : Blk w7 (w.heap.size + 1 + 1) _ _ := (hg7.block _ bU.lt (by simp; omega)).trans bU
          have hw7 := hwY.grown hg7 hwY.size (fun j hj => by cases hj; exact hw1.size)
          refine leaves_cons (f := 59) (args := #[.pointer (some ⟨w.heap.size + 1, 0, none⟩), .pointer (some ⟨w.heap.size + 1 + 1, 0, none⟩)]) (by simp) (by simp [go_sem]) ?_
          refine (catch_panic _ _ 0 CF _ [] w7 bA7 bU7 (by omega)).mono ?_
          rintro e u' w9 ⟨rfl, rfl, hw9⟩
          have hb9 := bal w7 (.cells #[.int .i64 CF] 97)
          have bA9 := ((bA7.later hb9).set 0 (.int .i64 CF)).other (show w.heap.size + 1 ≠ w.heap.size + 1 + 1 by omega) 0 (.map none)
          have bU9 := ((bU7.later hb9).other (show w.heap.size + 1 + 1 ≠ w.heap.size + 1 by omega) 0 (.int .i64 CF)).set 0 (.map none)
          have hW9 := ((below2 hw7 hb9).setCell (p := ⟨w.heap.size + 1, 0, none⟩) (show w.heap.size ≤ w.heap.size + 1 by omega) (.int .i64 CF)).setCell (p := ⟨w.heap.size + 1 + 1, 0, none⟩) (show w.heap.size ≤ w.heap.size + 1 + 1 by omega) (.map none)
          rw [← hw9] at bA9 bU9 hW9
          have y0 := bU9.cell 0 rfl
          have y1 := bA9.cell 0 rfl
          clear hw9 bA9 bU9 hb9
          simp [Leaves, settle, results, Try.results38, go_sem, y0, y1]
          exact ⟨hW9, none, rfl, (fun h => by omega), fun _ => rfl⟩
    · rw [hv] at HCF
      clear hro hrl
      have hcf : CF = -2 := by rw [HCF.out]; simp [hlen]
      subst hcf
      have h8 : (8192 : Int) < l.length := by omega
      go_enter_defers Try.func38, Try.ntmps38
      go_wp2_with fail
      generalize hX1 : World.alloc w _ = X1
      have zX1 : X1.heap.size = w.heap.size + 1 := by rw [← hX1]; simp
      have bX1 : Below w.heap.size w X1 := by rw [← hX1]; exact bal w _
      have bP_1 : Blk X1 (w.heap.size) [.int .i64 p.vars, .slice pa p.rows.length pc, .slice ga p.gain.length gc] 27 := by rw [← hX1]; exact Blk.newA w _ (by first | rfl | simp)
      generalize hX2 : World.alloc X1 _ = X2
      have zX2 : X2.heap.size = w.heap.size + 1 + 1 := by rw [← hX2]; simp [zX1]
      have bX2 : Below X1.heap.size X1 X2 := by rw [← hX2]; exact bal X1 _
      have bA_2 : Blk X2 (w.heap.size + 1) [.int .i64 0] 3 := by rw [← hX2, ← zX1]; exact Blk.newA X1 _ (by first | rfl | simp)
      have bP_2 := bP_1.later bX2
      generalize hX3 : World.alloc X2 _ = X3
      have zX3 : X3.heap.size = w.heap.size + 1 + 1 + 1 := by rw [← hX3]; simp [zX2]
      have bX3 : Below X2.heap.size X2 X3 := by rw [← hX3]; exact bal X2 _
      have bU : Blk X3 (w.heap.size + 1 + 1) [.map none] 76 := by rw [← hX3, ← zX2]; exact Blk.newA X2 _ (by first | rfl | simp)
      have bP := bP_2.later bX3
      have bA := bA_2.later bX3
      have Xb := below2 (below2 (bX1) bX2) bX3
      have Xz := zX3
      clear hX1 zX1 bX1 hX2 zX2 bX2 hX3 zX3 bX3 bP_1 bP_2 bA_2
      refine (validp_any p _ _ X3 (hr.below Xb) (hg.below Xb)).mono ?_
      rw [hv]
      rintro e w1 ⟨rfl, hb1⟩
      have hw1 := below2 Xb hb1
      replace bP := bP.later hb1
      replace bA := bA.later hb1
      replace bU := bU.later hb1
      have p0 := bP.cell 0 rfl
      have a0 := bA.cell 0 rfl
      have fA := bA.frozen 0
      have bU1 := bU.other (show w.heap.size + 1 + 1 ≠ w.heap.size + 1 by omega) 0 (.int .i64 (-2))
      have u0 := bU.cell 0 rfl
      have u1 := bU1.cell 0 rfl
      have fU := bU1.frozen 0
      clear hv hlen
      go_wp2_with fail
      have bU2 := bU1.set 0 (.map none)
      have bA2 := (bA.set 0 (.int .i64 (-2))).other (show w.heap.size + 1 ≠ w.heap.size + 1 + 1 by omega) 0 (.map none)
      have hw2 := (hw1.setCell (p := ⟨w.heap.size + 1, 0, none⟩) (show w.heap.size ≤ w.heap.size + 1 by omega) (.int .i64 (-2))).setCell (p := ⟨w.heap.size + 1 + 1, 0, none⟩) (show w.heap.size ≤ w.heap.size + 1 + 1 by omega) (.map none)
      generalize World.setCell (World.setCell w1 ⟨w.heap.size + 1, 0, none⟩ (.int .i64 (-2))) ⟨w.heap.size + 1 + 1, 0, none⟩ (.map none) = W2 at bU2 bA2 hw2 ⊢
      have y0 := bU2.cell 0 rfl
      have y1 := bA2.cell 0 rfl
      have hQ : CheckQ (-2) (reachF l l.length 0) w (.returned (.tuple #[.int .i64 (-2), .map none])) W2 := ⟨hw2, none, rfl, (fun h => by omega), fun _ => rfl⟩
      clear bU2 bA2 hw2 bU1 bA bU bP hw1 hb1
      simp [bodyPostD, Leaves, results, Try.results38, go_sem, y0, y1]
      exact hQ
end Go.Proofs.Ytppfdjjhloaopaa
/- The keys of a map of the call's own, sorted: slices.Sorted(maps.Keys(m)) at map[int]bool, by the shelf's contracts. Conditions: how the map lies in memory; its size. -/
namespace Go.Proofs.Ytppfdjjhloaopaa
open Go.RowKit Go.Maps Go.Sort Go.Shelf

theorem keysort_in (m : Nat) : AnyZI.SortsIn Try.prog Try.sortedA_ren Fence.wide m :=
  ⟨fun blk off cap ss W hH hblk hsz => callsIn_wide.2 (AnyM.slices_Sort_int Try.sortA blk off cap ss W hH hblk hsz),
   fun p cap W => callsIn_wide.2 (AnyM.slices_Sort_int_none Try.sortA p cap W)⟩
theorem keys_any (mb : Option Nat) (W : World) : Calls Try.prog 43 #[.map mb] W fun e w' => e = .returned (.func (.func 66) #[] #[.pointer (some ⟨W.heap.size, 0, none⟩)]) ∧ w' = W.alloc (.cells #[.map mb] 76) :=
  (callsIn_wide (n := 5)).1 (AnyZI.keys_in Try.keysA Fence.wide 5 trivial rfl mb W)
def keyed (ks : List Int) : List Int := (intKeys (keysD ks)).mergeSort fun x y => decide (x ≤ y)
def KeyQ (ks : List Int) (w : World) (e : Ending) (w' : World) : Prop := ∃ v, e = .returned v ∧ IntsIn (frm w.heap.size w') v (keyed ks) ∧ Below w.heap.size w w'
theorem sorted_any (ks : List Int) (b n B : Nat) (w : World) (hB : w.cell? ⟨B, 0, none⟩ = some (.map (some b))) (hm : OwnM w b n ks) (hk : Maps.size (keysD ks) ≤ 1000000) :
    Calls Try.prog 42 #[.func (.func 66) #[] #[.pointer (some ⟨B, 0, none⟩)]] w (KeyQ ks w) := by
  have hmax : Maps.size (keysD ks) ≤ maxLen := by unfold maxLen; omega
  have hbytes : Maps.size (keysD ks) * 8 ≤ 140737488355328 := by omega
  have hseq : SeqGives Fence.wide 2 Try.prog 66 #[.pointer (some ⟨B, 0, none⟩)] encZ (fun ss => ss.Perm (intKeys (keysD ks))) (Maps.size (keysD ks)) w :=
    AnyZI.keys_gives (ρ := Try.keysA_ren) { Try.keysA with } Fence.wide _ trivial rfl (by omega) B b n (keysD ks) _ (lt_of_cell hB) hB hm
  have cS := AnyZI.sorted_in Try.sortedA Fence.wide 5 trivial trivial trivial trivial rfl (by omega) (keysort_in _) (enters_of Try.func65 (by kernel_rfl) rfl) 66 #[.pointer (some ⟨B, 0, none⟩)] trivial (enters_of Try.func66 (by kernel_rfl) rfl) _ _ hmax hbytes _ hseq
  change CallsIn _ _ Try.prog 42 _ _ _ at cS
  refine ((callsIn_wide (n := 5)).1 cS).mono ?_
  rintro e w' ⟨v, ss, rfl, hS, hrow, hnil, hb⟩
  refine ⟨v, rfl, ?_, hb⟩
  have e1 : ss.mergeSort (fun x y => decide (x ≤ y)) = keyed ks := mergeSort_of_perm_i hS
  have e2 : ss.length = (keyed ks).length := by rw [← e1]; simp
  rw [e1, e2] at hrow
  exact OwnI.intsF (B := w.heap.size) hrow (Nat.le_refl _)
theorem OwnM.size_le {w : World} {b n : Nat} {ks : List Int} (h : OwnM w b n ks) : Maps.size (keysD ks) ≤ n := by
  obtain ⟨es, clock, hb, F, hs, hD⟩ := h
  rw [hD]
  simpa [Maps.size, length_sorted] using hs
theorem sortednil_any (B : Nat) (w : World) (hB : w.cell? ⟨B, 0, none⟩ = some (.map none)) :
    Calls Try.prog 42 #[.func (.func 66) #[] #[.pointer (some ⟨B, 0, none⟩)]] w (Ret (.slice none 0 0) w) := by
  have hseq : SeqGives Fence.wide 2 Try.prog 66 #[.pointer (some ⟨B, 0, none⟩)] encZ (fun ss : List Int => ss = []) 0 w :=
    AnyZI.keys_gives_nil (ρ := Try.keysA_ren) { Try.keysA with } Fence.wide _ trivial rfl B _ (lt_of_cell hB) hB
  have cS := AnyZI.sorted_in Try.sortedA Fence.wide 5 trivial trivial trivial trivial rfl (by omega) (keysort_in _) (enters_of Try.func65 (by kernel_rfl) rfl) 66 #[.pointer (some ⟨B, 0, none⟩)] trivial (enters_of Try.func66 (by kernel_rfl) rfl) _ 0 (Nat.zero_le _) (by omega) _ hseq
  change CallsIn _ _ Try.prog 42 _ _ _ at cS
  refine ((callsIn_wide (n := 5)).1 cS).mono ?_
  rintro e w' ⟨v, ss, rfl, rfl, hrow, hnil, hb⟩
  obtain rfl : v = .slice none 0 0 := hnil.2 rfl
  exact ⟨rfl, hb⟩
end Go.Proofs.Ytppfdjjhloaopaa
namespace Go.Proofs.Ytppfdjjhloaopaa
open Go.RowKit

def wrongP (p : ProgD) (l : List StepD) : Int := checkF p p.rows l
def refB (p : ProgD) (l : List StepD) : Bool := decide (wrongP p l = -1)
def usedP (p : ProgD) (l : List StepD) : List Int := if wrongP p l = -1 then keyed (reachF l l.length 0) else []
theorem check_own (p : ProgD) (rv gv : Value) (l : List StepD) (sv : Value) (w : World) (hr : RowsAt w rv p.rows) (hg : IntsAt w gv p.gain) (hs : StepsIn w.cell? sv l) :
    Calls Try.prog 38 #[progV p rv gv, rv, sv] w (CheckQ (wrongP p l) (reachF l l.length 0) w) :=
  check_any p rv gv p.rows rv l sv w hr hg hr hs (fun h => by have := (valid_parts h).2.2.1; omega) rows_ok
theorem wrong_any (p : ProgD) (rv gv : Value) (l : List StepD) (sv : Value) (w : World) (hr : RowsAt w rv p.rows) (hg : IntsAt w gv p.gain) (hs : StepsIn w.cell? sv l) :
    Calls Try.prog 19 #[progV p rv gv, sv] w (Ret (.int .i64 (wrongP p l)) w) := by
  obtain ⟨w0, hw0, hb0, d0, d1, d2⟩ := boxedProg w p.vars rv gv
  rw [← hw0] at hb0 d0 d1 d2
  have hr0 := hr.below hb0
  have hg0 := hg.below hb0
  have hs0 := hs.keeps (keeps_of_below hb0)
  clear hw0
  have HC := hide (check_own p rv gv l sv _ hr0 hg0 hs0)
  clear hr hg hs hr0 hg0 hs0
  obtain ⟨CF, hCF⟩ : ∃ CF, wrongP p l = CF := ⟨_, rfl⟩
  rw [hCF] at HC ⊢
  clear hCF
  go_enter Try.func19, Try.ntmps19
  go_wp2_with (go_at_call 38; refine HC.out.mono ?_; rintro e w1 ⟨hb1, mv, rfl, -, -⟩)
  go_ret
  exact ⟨rfl, below2 hb0 hb1⟩
theorem refutesp_any (p : ProgD) (rv gv : Value) (l : List StepD) (sv : Value) (w : World) (hr : RowsAt w rv p.rows) (hg : IntsAt w gv p.gain) (hs : StepsIn w.cell? sv l) :
    Calls Try.prog 17 #[progV p rv gv, sv] w (Ret (.bool (refB p l)) w) := by
  obtain ⟨w0, hw0, hb0, d0, d1, d2⟩ := boxedProg w p.vars rv gv
  rw [← hw0] at hb0 d0 d1 d2
  have hr0 := hr.below hb0
  have hg0 := hg.below hb0
  have hs0 := hs.keeps (keeps_of_below hb0)
  clear hw0
  have HC := hide (wrong_any p rv gv l sv _ hr0 hg0 hs0)
  have HF : Hid (refB p l = decide (wrongP p l = -1)) := hide rfl
  clear hr hg hs hr0 hg0 hs0
  obtain ⟨CF, hCF⟩ : ∃ CF, wrongP p l = CF := ⟨_, rfl⟩
  rw [hCF] at HC HF
  clear hCF
  go_enter Try.func17, Try.ntmps17
  go_wp2_with (go_at_call 19; refine HC.out.mono ?_; rintro e w1 ⟨rfl, hb1⟩)
  go_ret
  exact ⟨ret_bool (by rw [HF.out]; first | rfl | (by_cases h : CF = -1 <;> simp [h])), below2 hb0 hb1⟩
theorem rowsp_any (p : ProgD) (rv gv : Value) (l : List StepD) (sv : Value) (w : World) (hr : RowsAt w rv p.rows) (hg : IntsAt w gv p.gain) (hs : StepsIn w.cell? sv l) :
    Calls Try.prog 22 #[progV p rv gv, sv] w (RetM (fun c v => IntsIn c v (usedP p l)) w) := by
  obtain ⟨w0, hw0, hb0, d0, d1, d2⟩ := boxedProg w p.vars rv gv
  rw [← hw0] at hb0 d0 d1 d2
  have hr0 := hr.below hb0
  have hg0 := hg.below hb0
  have hs0 := hs.keeps (keeps_of_below hb0)
  clear hw0
  have HC := hide (check_own p rv gv l sv _ hr0 hg0 hs0)
  have HF : Hid (usedP p l = if wrongP p l = -1 then keyed (reachF l l.length 0) else []) := hide rfl
  clear hr hg hs hr0 hg0 hs0
  obtain ⟨CF, hCF⟩ : ∃ CF, wrongP p l = CF := ⟨_, rfl⟩
  rw [hCF] at HC HF
  clear hCF
  generalize reachF l l.length 0 = us at *
  go_enter Try.func22, Try.ntmps22
  go_wp2_with fail
  refine HC.out.mono ?_
  rintro e w1 ⟨hb1, mv, rfl, hY, hN⟩
  have hw1 := below2 hb0 hb1
  by_cases hcf : CF = -1
  · subst hcf
    obtain ⟨b, rfl, hM⟩ := hY rfl
    clear hY hN
    go_wp2_with fail
    refine (keys_any _ _).mono ?_
    rintro e w2 ⟨rfl, hw2⟩
    have hb2 : Below w1.heap.size w1 w2 := by rw [hw2]; exact bal w1 _
    have hk : w2.cell? ⟨w1.heap.size, 0, none⟩ = some (.map (some b)) := by rw [hw2]; simp
    have hM2 := hM.later hb2
    clear hw2
    go_wp2_with fail
    refine (sorted_any us b _ w1.heap.size w2 hk hM2 (by have := hM2.size_le; omega)).mono ?_
    rintro e w3 ⟨v, rfl, hv, hb3⟩
    have hw2 := below2 hw1 hb2
    go_wp2_with fail
    go_ret
    exact ⟨_, rfl, by rw [HF.out]; exact hv.keeps (keeps_frm_le _ hw2.size), below2 hw2 hb3⟩
  · obtain rfl := hN hcf
    have HCN := hide hcf
    clear hY hN hcf
    go_wp2_with fail
    refine (keys_any _ _).mono ?_
    rintro e w2 ⟨rfl, hw2⟩
    have hb2 : Below w1.heap.size w1 w2 := by rw [hw2]; exact bal w1 _
    have hk : w2.cell? ⟨w1.heap.size, 0, none⟩ = some (.map none) := by rw [hw2]; simp
    clear hw2
    go_wp2_with fail
    refine (sortednil_any w1.heap.size w2 hk).mono ?_
    rintro e w3 ⟨rfl, hb3⟩
    have hw2 := below2 hw1 hb2
    go_wp2_with fail
    go_ret
    exact ⟨_, rfl, by rw [HF.out, if_neg HCN.out]; exact IntsIn.nil _, below2 hw2 hb3⟩
/-- how many steps are leaves -/
def leavesN (l : List StepD) (k : Nat) : Nat := (l.take k).countP fun s => decide (s.var = -1)
theorem leavesN_succ {l : List StepD} {k : Nat} (h : k < l.length) : leavesN l (k + 1) = leavesN l k + (if (l.getD k st0).var = -1 then 1 else 0) := by
  unfold leavesN
  rw [List.take_add_one, List.countP_append, List.getElem?_eq_getElem h, List.getD_eq_getElem?_getD, List.getElem?_eq_getElem h]
  simp [List.countP_cons]
theorem leavesN_le (l : List StepD) (k : Nat) : leavesN l k ≤ k := Nat.le_trans List.countP_le_length (by simp; omega)
set_option maxHeartbeats 1000000 in
theorem sizep_any (l : List StepD) (sv : Value) (w : World) (hs : StepsIn w.cell? sv l) :
    Calls Try.prog 15 #[sv] w (Ret (.tuple #[.int .i64 (l.length - leavesN l l.length), .int .i64 (leavesN l l.length)]) w) := by
  obtain ⟨sa, sc, rfl, hsn, hsm, hsk⟩ := id hs
  have hsl : (l.length : Int) ≤ 9223372036854775807 := by have : l.length ≤ sc := hsn; omega
  clear hsn hsm hs
  have HK := hide hsk
  clear hsk
  go_enter Try.func15, Try.ntmps15
  go_wp2_with fail
  go_loopw [4, 9] (fun c i wr => ∃ k : Nat, k ≤ l.length ∧ i = .int .i64 k ∧ c = .int .i64 (leavesN l k) ∧ Below w.heap.size w wr) (fun _ i _ => l.length - (intOf i).toNat)
  case atStart => exact ⟨0, by omega, rfl, rfl, Below.refl _ _⟩
  case round =>
    obtain ⟨k, hk, rfl, rfl, hb⟩ := hrel
    have hle := leavesN_le l k
    by_cases hlt : k < l.length
    · obtain ⟨sb, so, wv, rfl, s0, s1, s2, s3, hW⟩ := HK.out k hlt
      have c0 := keep hb s0
      have c1 := keep hb s1
      have c2 := keep hb s2
      have c3 := keep hb s3
      obtain ⟨wa, wc, rfl, -, -, -⟩ := id hW
      have HS := hide (leavesN_succ hlt)
      clear hW s0 s1 s2 s3
      generalize leavesN l k = c at *
      generalize l.getD k st0 = s at *
      obtain ⟨sv, sn, sy, ws⟩ := s
      dsimp only at *
      by_cases hv : sv = -1
      · subst hv
        rw [if_pos rfl] at HS
        go_wp2_with fail
        exact ⟨⟨k + 1, by omega, by go_num, by rw [HS.out]; go_num, below2 hb (bal wr _)⟩, by simp [intOf]; omega⟩
      · have q0 : (sv == -1) = false := by simpa using hv
        rw [if_neg hv] at HS
        clear hv
        go_wp2_with fail
        exact ⟨⟨k + 1, by omega, by go_num, by rw [HS.out]; rfl, below2 hb (bal wr _)⟩, by simp [intOf]; omega⟩
    · obtain rfl : k = l.length := by omega
      go_wp2_with fail
      go_ret2
      exact ⟨rfl, hb⟩
end Go.Proofs.Ytppfdjjhloaopaa
