/- An append of one integer to a slice of one's own, with all that it leaves as it was, in a plain list of operations; own slices beside a disk. No condition. -/
import Derived.Test.YtednelejpkchbaaLkE
namespace Go.Proofs.Ytednelejpkchbaa
open Go.RowKit

theorem app_intE {w : World} {ops : Array Oper} {rest : List Oper} {o : Oper} {a : Act} {Q : Exit → Act → World → Prop} (hgd : o.guard = none) (s x : Operand)
    (ho : o.op = .call { callee := .builtin .append, args := #[s, x], argTypes := #[37, 37] }) (B : Nat) (v : Value) (l : List Int) (hs : a.eval s = v) (hown : OwnI w B v l) (y : Int)
    (hx : a.eval x = .slice (some ⟨w.heap.size, 0, none⟩) 1 1) (hlen : l.length < 1000000) (hB : B ≤ w.heap.size)
    (h : ∀ v' w', OwnI w' B v' (l ++ [y]) → Eff (fun k => some k = v.ownBlock) w w' → (v'.ownBlock = v.ownBlock ∨ ∀ g, v'.ownBlock = some g → w.heap.size ≤ g) → wpList Try.prog ops Q rest (a.put o.dst v') w') :
    wpList Try.prog ops Q (o :: rest) a (w.alloc (.cells #[.int .i64 y] 3)) := by
  obtain ⟨i0, hi, hz0, hz1, hz2⟩ := info_parts infoInt
  have hnews : ∀ j u, [Value.int .i64 y][j]? = some u → (w.alloc (.cells #[.int .i64 y] 3)).cell? ((⟨w.heap.size, 0, none⟩ : Addr).add j) = some u := by
    intro j u hj
    match j, hj with
    | 0, hj => simp at hj; subst hj; simp [Addr.add]
  obtain ⟨v', w', hrun, h2, h3, -, h5⟩ := run_append_own_at (P := Try.prog) (w.alloc (.cells #[.int .i64 y] 3)) B 37 o.type 3 i0 (.int .i64 0) 1 8 Try.underlying37 hi hz0 hz1 hz2 rfl (by decide) v l.length (l.map (Value.int .i64)) (World.ownsRow.alloc hown _)
    ⟨w.heap.size, 0, none⟩ 1 1 [.int .i64 y] rfl hnews (by intro u hu; simp at hu; subst hu; rfl) (by unfold maxLen; omega) (by omega) (by simp; omega)
  refine wpList_plain hgd fun K hK => ?_
  unfold Oper.wp execOp
  simp only [ho, resolve, invoke, builtin, Sem.run_bind, Sem.run_pure, Result.andThen_ok, List.map_toArray, List.map_cons, List.map_nil, hs, hx, hrun]
  refine hK _ _ (h v' w' (by simpa [OwnI] using h2) ⟨h3.os, h3.tape, h3.output, by have := h3.size; simp at this; omega, fun b hb hn => ?_⟩ (h5.imp id fun e g hg => by rw [e] at hg; cases hg; simp))
  rw [h3.block b (by simp; omega) hn, Below.heap_alloc _ _ _ hb]
theorem OwnI.heap {w : World} {B : Nat} {v : Value} {l : List Int} (h : OwnI w B v l) {g : Nat} (hg : v.ownBlock = some g) : B ≤ g ∧ ∃ cur, w.heap[g]? = some (.cells cur 3 (0, 0)) := by
  rcases h.2 with ⟨rfl, -⟩ | ⟨g', cap, cur, rfl, e2, e3, -⟩
  · cases hg
  · have hg : some g' = some g := hg
    cases hg
    exact ⟨e2, cur, e3⟩
theorem own_off {w : World} {D U V : Nat} {pv : Value} {d : DiskD} (h : DiskAt w D U V pv d) {B : Nat} {v : Value} {l : List Int} (ho : OwnI w B v l) : ∀ k, DSet D U V pv k → ¬ some k = v.ownBlock := by
  intro k hk e
  obtain ⟨-, cur, hc⟩ := ho.heap e.symm
  rcases hk with rfl | rfl | rfl | hk
  · have := (show w.heap[_]? = _ from h.hD).symm.trans hc; simp at this
  · have := (show w.heap[_]? = _ from h.hU).symm.trans hc; simp at this
  · have := (show w.heap[_]? = _ from h.hV).symm.trans hc; simp at this
  · rcases h.hP.form with ⟨rfl, -⟩ | ⟨g, c, cur', rfl, -, e3, -⟩
    · cases hk
    · have hk : some k = some g := hk
      cases hk
      have := e3.symm.trans hc
      simp at this
end Go.Proofs.Ytednelejpkchbaa
