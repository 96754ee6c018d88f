/- A copy of rows, with the goal's row behind it. No condition. -/
import Derived.Test.YtppfdjjhloaopaaPr2
import Derived.Test.YtppfdjjhloaopaaAppR2
import Derived.Test.YtppfdjjhloaopaaRegM
namespace Go.Proofs.Ytppfdjjhloaopaa
open Go.RowKit

theorem OwnR.empty {W : World} {b0 B k : Nat} {e : TypeId} (h : Blk W b0 [] e) (hB : B ≤ b0) : OwnR W B e k (.slice (some ⟨b0, 0, none⟩) 0 0) [] :=
  ⟨⟨by simp, .inr ⟨b0, 0, #[], rfl, hB, h, Nat.le_refl _, by unfold maxLen; omega, by simp, by simp⟩⟩, fun r hr => by cases hr⟩
theorem step_app_recs3 {W : World} {ops : Array Oper} {o : Oper} {T : Array Value} {D : List Deferred} {K : Act → World → Prop} {Q : Exit → Act → World → Prop} {E : Prop} {e t : TypeId} {k by_ : Nat} {z : Value}
    (hinfo : (Try.prog.info? e).map (fun i => (i.zero, i.size, i.bytes)) = some (some z, k, by_)) (hzk : z.cells.size = k) (hk : 0 < k) (hu : Try.prog.underlying t = some (.slice e)) (hgd : o.guard = none) (s x : Operand)
    (ho : o.op = .call { callee := .builtin .append, args := #[s, x], argTypes := #[t, t] }) (B : Nat) (v : Value) (L : List (List Value)) (hs : Act.eval ⟨T, D⟩ s = v) (hown : OwnR W B e k v L)
    (xa : Option Addr) (m c : Nat) (Lx : List (List Value)) (hm : m = Lx.length) (hx : Act.eval ⟨T, D⟩ x = .slice xa m c) (h6 : ∀ r ∈ Lx, r.length = k) (hone : ∀ u ∈ Lx.flatten, u.oneCell' = true)
    (hcells : ∀ b, xa = some b → ∀ j u, Lx.flatten[j]? = some u → W.cell? (b.add j) = some u) (hnone : xa = none → Lx = []) (hlen : (L.length + Lx.length) * by_ ≤ 140737488355328) (hlen2 : L.length + Lx.length < 1000000) (hB : B ≤ W.heap.size)
    (h : ∀ v' w', OwnR w' B e k v' (L ++ Lx) → W.grownBy w' v.ownBlock → K (Act.put ⟨T, D⟩ o.dst v') w') :
    if Region.wanted o (yielded ops T) = true then Oper.wp Try.prog o ⟨T, D⟩ W K Q else E :=
  step_app_recs2 (a := ⟨T, D⟩) hinfo hzk hk hu hgd s x ho B v L hs hown xa m c Lx hm hx h6 hone hcells hnone hlen hlen2 hB h
/-- a row in one block, its numbers in another -/
def GoalAt (gl : List Int) (g : Int) (B : Nat) (W : World) (v : Value) : Prop :=
  ∃ b8 b7 : Nat, B ≤ b8 ∧ v = .slice (some ⟨b8, 0, none⟩) 1 1 ∧ Blk W b8 (rowCells (goalF gl g) (.slice (some ⟨b7, 0, none⟩) gl.length gl.length)) 67 ∧ Blk W b7 ((goalF gl g).coef.map (Value.int .i64)) 3
theorem GoalAt.later {gl : List Int} {g : Int} {B : Nat} {W W' : World} {v : Value} (h : GoalAt gl g B W v) (hb : Below W.heap.size W W') : GoalAt gl g B W' v :=
  let ⟨b8, b7, h0, h1, h2, h3⟩ := h
  ⟨b8, b7, h0, h1, h2.later hb, h3.later hb⟩
theorem Blk.ne0 {W : World} {b c : Nat} {vs us : List Value} {t t' : TypeId} (h : Blk W b vs t) (k : Blk W c us t') (ht : vs ≠ us) : b ≠ c := fun e => by
  subst e
  have := (show W.heap[b]? = _ from h).symm.trans (show W.heap[b]? = _ from k)
  simp at this; exact ht this.1
theorem GoalAt.grown {gl : List Int} {g : Int} {B b0 : Nat} {W W' : World} {v : Value} (h : GoalAt gl g B W v) (h0 : Blk W b0 [] 67) (hg : W.grownBy W' (some b0)) : GoalAt gl g B W' v := by
  obtain ⟨b8, b7, k0, k1, k2, k3⟩ := h
  refine ⟨b8, b7, k0, k1, k2.grown hg ?_, k3.grown hg ?_⟩
  · have := h0.ne0 k2 (by simp [rowCells]); simpa using this
  · have := h0.ne k3 (by decide); simpa using this
theorem goal_coef_len (gl : List Int) (g : Int) : (goalF gl g).coef.length = gl.length := by simp [goalF]
/-- behind the append of the goal's row -/
theorem goal_rows {W0 W W' : World} {rows : List RowD} {gl : List Int} {g : Int} {Lr : List (List Value)} {v v' : Value} (hl : Lr.length = rows.length) (hgl : gl.length ≤ 13)
    (hs : ∀ i, i < rows.length → ∃ cv, Lr.getD i [] = rowCells (rows.getD i row0) cv ∧ IntsAt W0 cv (rows.getD i row0).coef) (h0 : Below W0.heap.size W0 W) (hO : OwnR W W0.heap.size 67 6 v Lr)
    {b7 : Nat} (hb7 : Blk W b7 ((goalF gl g).coef.map (Value.int .i64)) 3) (hO' : OwnR W' W0.heap.size 67 6 v' (Lr ++ [rowCells (goalF gl g) (.slice (some ⟨b7, 0, none⟩) gl.length gl.length)])) (hg : W.grownBy W' v.ownBlock) :
    RowsAt W' v' (rows ++ [goalF gl g]) := by
  have hb := h0.trans (below_own hO h0.size hg)
  have h7 : Blk W' b7 ((goalF gl g).coef.map (Value.int .i64)) 3 := by
    refine hb7.grown hg ?_
    rcases hO.form with ⟨e, -⟩ | ⟨g', c', cur, e, -, e3, -⟩
    · rw [e]; simp [Value.ownBlock]
    · rw [e]; simp only [Value.ownBlock]
      intro he
      have he : g' = b7 := Option.some.inj he
      subst he
      have := (show W.heap[g']? = _ from hb7).symm.trans e3
      simp at this
  refine (OwnR.rows hO' (l := rows ++ [goalF gl g]) (by simp [hl]) fun i hi => ?_)
  rcases Nat.lt_or_ge i rows.length with h1 | h1
  · obtain ⟨cv, e, hc⟩ := hs i h1
    rw [getD_app_left _ _ _ _ (by omega), getD_app_left _ _ _ _ h1]
    exact ⟨cv, e, hc.below hb⟩
  · have hi' : i = rows.length := by simp at hi; omega
    subst hi'
    rw [getD_app_right _ _ _ _ (by omega), getD_app_right _ _ _ _ (Nat.le_refl _), hl, Nat.sub_self]
    refine ⟨_, rfl, ?_⟩
    have := (h7.ints (B := 0) (Nat.zero_le _) (by rw [goal_coef_len]; omega)).keeps (keeps_frm _ _)
    rwa [goal_coef_len] at this
theorem news2 {W : World} {b0 : Nat} {r : List Value} {t : TypeId} (h : Blk W b0 r t) : ∀ b, (some ⟨b0, 0, none⟩ : Option Addr) = some b → ∀ j u, [r].flatten[j]? = some u → W.cell? (b.add j) = some u := fun b hb j u hj => by
  cases hb
  have h9 := h.cell j (by simpa using hj)
  cases j <;> simpa [Addr.add] using h9
end Go.Proofs.Ytppfdjjhloaopaa
