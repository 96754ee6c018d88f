/- Appends of one integer to a slice of a call's own, with all that they leave as it was. No condition. -/
import Derived.Test.YtcaklldmcbpbfaaOwn
import Derived.Test.YtcaklldmcbpbfaaBlk
import Derived.Maps.AppendAt
import Derived.RegionTactic
namespace Go.Proofs.Ytcaklldmcbpbfaa
open Go.RowKit

theorem step_app_int2 (w : World) {W : World} {ops : Array Oper} {o : Oper} {a : Act} {K : Act → World → Prop} {Q : Exit → Act → World → Prop} {E : Prop} (hgd : o.guard = none) (s x : Operand)
    (ho : o.op = .call { callee := .builtin .append, args := #[s, x], argTypes := #[24, 24] }) (B : Nat) (v : Value) (l : List Int) (hs : a.eval s = v) (hown : OwnI w B v l) (y : Int)
    (hW : Below (w.alloc (.cells #[.int .i64 y] 3)).heap.size (w.alloc (.cells #[.int .i64 y] 3)) W)
    (hx : a.eval x = .slice (some ⟨w.heap.size, 0, none⟩) 1 1) (hlen : l.length < 1000000) (hB : B ≤ w.heap.size)
    (h : ∀ v' w', OwnI w' B v' (l ++ [y]) → W.grownBy w' v.ownBlock → (v'.ownBlock = v.ownBlock ∨ v'.ownBlock = some W.heap.size) → K (a.put o.dst v') w') :
    if Region.wanted o (yielded ops a.tmps) = true then Oper.wp Try.prog o a W K Q else E := by
  have hw : Region.wanted o (yielded ops a.tmps) = true := by simp [Region.wanted, hgd]
  rw [if_pos hw]
  obtain ⟨i0, hi, hz0, hz1, hz2⟩ := info_parts infoInt
  have hsz := hW.size
  simp at hsz
  have hbW := below2 (bal w (.cells #[.int .i64 y] 3)) hW
  have hownW : W.ownsRow B 3 1 v l.length (l.map (Value.int .i64)) := hown.later hbW
  have hnews : ∀ j u, [Value.int .i64 y][j]? = some u → W.cell? ((⟨w.heap.size, 0, none⟩ : Addr).add j) = some u := by
    intro j u hj
    match j, hj with
    | 0, hj => simp at hj; subst hj; exact keep hW (by simp [Addr.add])
  obtain ⟨v', w', hrun, h2, h3, -, h5⟩ := run_append_own_at (P := Try.prog) W B 24 o.type 3 i0 (.int .i64 0) 1 8 Try.underlying24 hi hz0 hz1 hz2 rfl (by decide) v l.length (l.map (Value.int .i64)) hownW
    ⟨w.heap.size, 0, none⟩ 1 1 [.int .i64 y] rfl hnews (by intro u hu; simp at hu; subst hu; rfl) (by unfold maxLen; omega) (by omega) (by omega)
  unfold Oper.wp execOp
  simp only [ho, resolve, invoke, builtin, Sem.run_bind, Sem.run_pure, Result.andThen_ok, List.map_toArray, List.map_cons, List.map_nil, hs, hx, hrun]
  exact h v' w' (by simpa [OwnI] using h2) h3 h5
theorem OwnI.grown {w w' : World} {B : Nat} {v : Value} {l : List Int} {r : Option Nat} (h : OwnI w B v l) (hg : w.grownBy w' r) (hr : ∀ k, v.ownBlock = some k → r ≠ some k) : OwnI w' B v l := by
  obtain ⟨h1, h2⟩ := h
  refine ⟨h1, ?_⟩
  rcases h2 with h3 | ⟨g, cap, cur, e1, e2, e3, e4⟩
  · exact .inl h3
  · refine .inr ⟨g, cap, cur, e1, e2, ?_, e4⟩
    have hlt : g < w.heap.size := by
      refine Decidable.byContradiction fun hn => ?_
      rw [Array.getElem?_eq_none (by omega)] at e3; cases e3
    rw [hg.block g hlt (fun e => hr g (by rw [e1]; rfl) e.symm)]; exact e3
theorem OwnI.lt {w : World} {B : Nat} {v : Value} {l : List Int} (h : OwnI w B v l) : ∀ k, v.ownBlock = some k → B ≤ k ∧ k < w.heap.size := by
  intro k hk
  rcases h.2 with ⟨rfl, -⟩ | ⟨g, cap, cur, rfl, e2, e3, -⟩
  · cases hk
  · have hk : some g = some k := hk
    cases hk
    refine ⟨e2, Decidable.byContradiction fun hn => ?_⟩
    rw [Array.getElem?_eq_none (by omega)] at e3; cases e3
theorem Blk.grownI {W w' : World} {b : Nat} {vs : List Value} {t : TypeId} {r : Option Nat} (h : Blk W b vs t) (hg : W.grownBy w' r) (hne : r ≠ some b) : Blk w' b vs t := (hg.block b h.lt (fun e => hne e.symm)).trans h
end Go.Proofs.Ytcaklldmcbpbfaa
