/- An append of one integer to a slice of one's own, with all that it leaves as it was, in a plain list of operations; own slices beside a disk. No condition. -/
import Derived.Test.YtednelejpkchbaaLkE
namespace Go.Proofs.Ytednelejpkchbaa
open Go.RowKit

theorem app_intE {w : World} {ops : Array Oper} {rest : List Oper} {o : Oper} {a : Act} {Q : Exit → Act → World → Prop} (hgd : o.guard = none) (s x : Operand)
    (ho : o.op = .call { callee := .builtin .append, args := #[s, x], argTypes := #[37, 37] }) (B : Nat) (v : Value) (l : List Int) (hs : a.eval s = v) (hown : OwnI w B v l) (y : Int)
    (hx : a.eval x = .slice (some ⟨w.heap.size, 0, none⟩) 1 1) (hlen : l.length < 1000000) (hB : B ≤ w.heap.size)
    (h : ∀ v' w', OwnI w' B v' (l ++ [y]) → Eff (fun k => some k = v.ownBlock) w w' → (v'.ownBlock = v.ownBlock ∨ ∀ g, v'.ownBlock = some g → w.heap.size ≤ g) → wpList Try.prog ops Q rest (a.put o.dst v') w') :
    wpList Try.prog ops Q (o :: rest) a (w.alloc (.cells #[.int .i64 y] 3)) := by
  obtain ⟨i0, hi, hz0, hz1, hz2⟩ := info_parts infoInt
  have hnews : ∀ j u, [Value.int .i64 y][j]? = some u → (w.alloc (.cells #[.int .i64 y] 3)).cell? ((⟨w.heap.size, 0, none⟩ : Addr).add j) = some u := by
    intro j u hj
    match j, hj with
    | 0, hj => simp at hj; subst hj; simp [Addr.add]
  obtain ⟨v', w', hrun, h2, h3, -, h5⟩ := run_append_own_at (P := Try.prog) (w.alloc (.cells #[.int .i64 y] 3)) B 37 o.type 3 i0 (.int .i64 0) 1 8 Try.underlying37 hi hz0 hz1 hz2 rfl (by decide) v l.length (l.map (Value.int .i64)) (World.ownsRow.alloc hown _)
    ⟨w.heap.size, 0, none⟩ 1 1 [.int .i64 y] rfl hnews (by intro u hu; simp at hu; subst hu; rfl) (by unfold maxLen; omega) (by omega) (by simp; omega)
  refine wpList_plain hgd fun K hK => ?_
  unfold Oper.wp execOp
  simp only [ho, resolve, invoke, builtin, Sem.run_bind, Sem.run_pure, Result.andThen_ok, List.map_toArray, List.map_cons, List.map_nil, hs, hx, hrun]
  refine hK _ _ (h v' w' (by simpa [OwnI] using h2) ⟨h3.os, h3.tape, h3.output, by have := h3.size; simp at this; omega, fun b hb hn => ?_⟩ (h5.imp id fun e g hg => by rw [e] at hg; cases hg; simp))
  rw [h3.block b (by simp; omega) hn, Below.heap_alloc _ _ _ hb]
/-- many integers -/
theorem app_intsE {w : World} {ops : Array Oper} {rest : List Oper} {o : Oper} {a : Act} {Q : Exit → Act → World → Prop} (hgd : o.guard = none) (s x : Operand)
    (ho : o.op = .call { callee := .builtin .append, args := #[s, x], argTypes := #[37, 37] }) (B : Nat) (v : Value) (l : List Int) (hs : a.eval s = v) (hown : OwnI w B v l) (xv : Value) (lx : List Int)
    (hx : a.eval x = xv) (hxs : IntsAt w xv lx) (hlen : l.length + lx.length < 1000000) (hB : B ≤ w.heap.size)
    (h : ∀ v' w', OwnI w' B v' (l ++ lx) → Eff (fun k => some k = v.ownBlock) w w' → (v'.ownBlock = v.ownBlock ∨ ∀ g, v'.ownBlock = some g → w.heap.size ≤ g) → wpList Try.prog ops Q rest (a.put o.dst v') w') :
    wpList Try.prog ops Q (o :: rest) a w := by
  obtain ⟨i0, hi, hz0, hz1, hz2⟩ := info_parts infoInt
  obtain ⟨xa, c, rfl, -, -, hc⟩ := hxs
  cases xa with
  | none =>
    have e : lx = [] := by
      cases lx with
      | nil => rfl
      | cons y t => obtain ⟨b, o, e, -⟩ := hc 0 (by simp); cases e
    subst e
    have hrun : (Builtin.append_ #[37, 37] o.type #[v, .slice none 0 c]).run Try.prog w = .ok v w := by
      have h3 := hown
      rcases h3.2 with ⟨rfl, h4⟩ | ⟨g, cap, cur, rfl, _, _, hnc, _⟩
      · simp [Builtin.append_, run_underlying Try.underlying37, sizeOf, typeInfo, hi, Builtin.lenOf, Builtin.firstCells]
      · simp [Builtin.append_, run_underlying Try.underlying37, sizeOf, typeInfo, hi, Builtin.lenOf, Builtin.firstCells, hnc, storeCells]
    refine wpList_plain hgd fun K hK => ?_
    have hx' : a.eval x = .slice none 0 c := hx
    unfold Oper.wp execOp
    simp only [ho, resolve, invoke, builtin, Sem.run_bind, Sem.run_pure, Result.andThen_ok, List.map_toArray, List.map_cons, List.map_nil, hs, hx', hrun]
    exact hK _ _ (h v w (by simpa using hown) (Eff.refl _ _) (.inl rfl))
  | some ad =>
    have hlow : ad.block < w.heap.size → ∀ j u, (lx.map (Value.int .i64))[j]? = some u → w.cell? (ad.add j) = some u := fun _ j u hj => by
      rw [List.getElem?_map] at hj
      cases hl : lx[j]? with
      | none => simp [hl] at hj
      | some y =>
        have hjl : j < lx.length := (List.getElem?_eq_some_iff.1 hl).1
        obtain ⟨b, o', e, hcl⟩ := hc j hjl
        cases e
        have : u = .int .i64 (lx.getD j 0) := by rw [hl] at hj; rw [List.getD_eq_getElem?_getD, hl]; simpa using hj.symm
        rw [this]
        cases j <;> simpa [Addr.add] using hcl
    have hcells : ∀ j u, (lx.map (Value.int .i64))[j]? = some u → w.cell? (ad.add j) = some u := fun j u hj => by
      refine hlow ?_ j u hj
      have hjl : j < lx.length := by
        have := (List.getElem?_eq_some_iff.1 hj).1; simpa using this
      obtain ⟨b, o', e, hcl⟩ := hc j hjl
      cases e
      exact lt_of_cell (a := ⟨b, o' + j, none⟩) hcl
    obtain ⟨v', w', hrun, h2, h3, -, h5⟩ := run_append_own_at (P := Try.prog) w B 37 o.type 3 i0 (.int .i64 0) 1 8 Try.underlying37 hi hz0 hz1 hz2 rfl (by decide) v l.length (l.map (Value.int .i64)) hown
      ad lx.length c (lx.map (Value.int .i64)) (by simp) hcells (by intro u hu; obtain ⟨y, -, rfl⟩ := List.mem_map.1 hu; rfl) (by unfold maxLen; omega) (by omega) hB
    refine wpList_plain hgd fun K hK => ?_
    unfold Oper.wp execOp
    simp only [ho, resolve, invoke, builtin, Sem.run_bind, Sem.run_pure, Result.andThen_ok, List.map_toArray, List.map_cons, List.map_nil, hs, hx, hrun]
    refine hK _ _ (h v' w' (by simpa [OwnI] using h2) ⟨h3.os, h3.tape, h3.output, h3.size, fun b hb hn => h3.block b hb hn⟩ (h5.imp id fun e g hg => by rw [e] at hg; cases hg; exact Nat.le_refl _))
theorem OwnI.heap {w : World} {B : Nat} {v : Value} {l : List Int} (h : OwnI w B v l) {g : Nat} (hg : v.ownBlock = some g) : B ≤ g ∧ ∃ cur, w.heap[g]? = some (.cells cur 3 (0, 0)) := by
  rcases h.2 with ⟨rfl, -⟩ | ⟨g', cap, cur, rfl, e2, e3, -⟩
  · cases hg
  · have hg : some g' = some g := hg
    cases hg
    exact ⟨e2, cur, e3⟩
theorem own_off {w : World} {D U V : Nat} {pv : Value} {d : DiskD} (h : DiskAt w D U V pv d) {B : Nat} {v : Value} {l : List Int} (ho : OwnI w B v l) : ∀ k, DSet D U V pv k → ¬ some k = v.ownBlock := by
  intro k hk e
  obtain ⟨-, cur, hc⟩ := ho.heap e.symm
  rcases hk with rfl | rfl | rfl | hk
  · have := (show w.heap[_]? = _ from h.hD).symm.trans hc; simp at this
  · have := (show w.heap[_]? = _ from h.hU).symm.trans hc; simp at this
  · have := (show w.heap[_]? = _ from h.hV).symm.trans hc; simp at this
  · rcases h.hP.form with ⟨rfl, -⟩ | ⟨g, c, cur', rfl, -, e3, -⟩
    · cases hk
    · have hk : some k = some g := hk
      cases hk
      have := e3.symm.trans hc
      simp at this
end Go.Proofs.Ytednelejpkchbaa
