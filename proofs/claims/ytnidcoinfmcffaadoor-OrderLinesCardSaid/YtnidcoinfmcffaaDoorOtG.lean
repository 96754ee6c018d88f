/- A copy of pairs with one more, in a region that draws its order: what the appends leave. Conditions: how the pairs lie in memory. -/
import Derived.Test.YtnidcoinfmcffaaDoorOtF
import Derived.Test.YtnidcoinfmcffaaDoorOpA
namespace Go.Proofs.YtnidcoinfmcffaaDoor
open Go.RowKit
theorem run_pairs_none {w : World} {a1 a2 : Option Addr} {k c2 : Nat} (ty : TypeId) : (Builtin.append_ #[22, 22] ty #[.slice a1 k k, .slice a2 0 c2]).run Tryd.prog w = .ok (.slice a1 k k) w := by
  obtain ⟨i0, hi, hz0, hz1, hz2⟩ := info_parts infoPair
  cases a1 <;> cases a2 <;> simp [Builtin.append_, run_underlying Tryd.underlying22, sizeOf, typeInfo, hi, Builtin.lenOf, Builtin.firstCells, loadCells, loadCellsFrom, storeCells]
theorem pairs_form {c : Rd} {a : Option Addr} {n m : Nat} {l : List (Int × Int)} (h : PairsIn c (.slice a n m) l) : n = l.length := by
  obtain ⟨a', m', e, -⟩ := h
  exact (Value.slice.inj e).2.1
/-- 'append([][2]int{}, x...)', in a region that draws its order -/
theorem step_copy {W : World} {ops : Array Oper} {o : Oper} {T : Array Value} {D : List Deferred} {K : Act → World → Prop} {Q : Exit → Act → World → Prop} {E : Prop} (hgd : o.guard = none) (s x : Operand)
    (ho : o.op = .call { callee := .builtin .append, args := #[s, x], argTypes := #[22, 22] }) (B b0 : Nat) (hs : Act.eval ⟨T, D⟩ s = .slice (some ⟨b0, 0, none⟩) 0 0) (hown : OwnR W B 46 2 (.slice (some ⟨b0, 0, none⟩) 0 0) [])
    (xa : Option Addr) (m c : Nat) (ps : List (Int × Int)) (hx : Act.eval ⟨T, D⟩ x = .slice xa m c) (hps : PairsIn W.cell? (.slice xa m c) ps) (hl : m ≤ 1000) (hB : B ≤ W.heap.size)
    (h : ∀ va vc W', OwnR W' B 46 2 (.slice va m vc) (ps.map pairC) → Below W.heap.size W W' → K (Act.put ⟨T, D⟩ o.dst (.slice va m vc)) W') :
    if Region.wanted o (yielded ops T) = true then Oper.wp Tryd.prog o ⟨T, D⟩ W K Q else E := by
  have hw : Region.wanted o (yielded ops T) = true := by simp [Region.wanted, hgd]
  rw [if_pos hw]
  have hm := pairs_form hps
  obtain ⟨i0, hi, hz0, hz1, hz2⟩ := info_parts infoPair
  unfold Oper.wp execOp
  by_cases h0 : m = 0
  · subst h0
    obtain rfl : ps = [] := List.eq_nil_of_length_eq_zero hm.symm
    simp only [ho, resolve, invoke, builtin, Sem.run_bind, Sem.run_pure, Result.andThen_ok, List.map_toArray, List.map_cons, List.map_nil, hs, hx, run_pairs_none]
    exact h _ _ _ hown (Below.refl _ _)
  · cases xa with
    | none =>
      have := pairs_none hps
      rw [List.map_eq_nil_iff] at this
      rw [this] at hm; exact absurd hm h0
    | some ad =>
      obtain ⟨v', w', hrun, r1, r2⟩ := run_append_arg_grows (P := Tryd.prog) W 22 o.type 46 i0 _ 2 16 Tryd.underlying22 hi hz0 hz1 hz2 rfl (by decide) ⟨b0, 0, none⟩ 0 0 [] rfl (fun j u hj => by simp at hj) ad m c (ps.map pairC).flatten (by rw [flat_len (pairs_one ps), List.length_map, hm]) (pairs_flat hps ad rfl) (by omega) (by unfold maxLen; omega) (by omega)
      simp only [ho, resolve, invoke, builtin, Sem.run_bind, Sem.run_pure, Result.andThen_ok, List.map_toArray, List.map_cons, List.map_nil, hs, hx, hrun]
      have hO : OwnR w' W.heap.size 46 2 v' (ps.map pairC) := ⟨by rw [List.length_map, ← hm]; simpa using r1, pairs_one ps⟩
      obtain ⟨va, vc, e⟩ := OwnR.formE hO
      rw [List.length_map, ← hm] at e
      subst e
      exact h _ _ _ (OwnR.weaken' hO hB) (below_grownN r2)
theorem step_one' {W : World} {ops : Array Oper} {o : Oper} {T : Array Value} {D : List Deferred} {K : Act → World → Prop} {Q : Exit → Act → World → Prop} {E : Prop} (hgd : o.guard = none) (s x : Operand)
    (ho : o.op = .call { callee := .builtin .append, args := #[s, x], argTypes := #[22, 22] }) (B m : Nat) (va : Option Addr) (vc : Nat) (ps : List (Int × Int)) (p : Int × Int) (hs : Act.eval ⟨T, D⟩ s = .slice va m vc) (hown : OwnR W B 46 2 (.slice va m vc) (ps.map pairC))
    (b0 : Nat) (hx : Act.eval ⟨T, D⟩ x = .slice (some ⟨b0, 0, none⟩) 1 1) (hr : Blk W b0 (pairC p) 46) (hl : m ≤ 1000) (hB : B ≤ W.heap.size)
    (h : ∀ g c W', OwnR W' B 46 2 (.slice (some ⟨g, 0, none⟩) (m + 1) c) ((ps ++ [p]).map pairC) → EffE B 46 W W' → K (Act.put ⟨T, D⟩ o.dst (.slice (some ⟨g, 0, none⟩) (m + 1) c)) W') :
    if Region.wanted o (yielded ops T) = true then Oper.wp Tryd.prog o ⟨T, D⟩ W K Q else E := by
  have hm : m = (ps.map pairC).length := by
    obtain ⟨a, c, e⟩ := OwnR.formE hown
    exact (Value.slice.inj e).2.1
  subst hm
  refine step_one infoPair rfl (by decide) Tryd.underlying22 hgd s x ho B _ (ps.map pairC) hs hown b0 (pairC p) hx hr rfl pairC_one (by omega) (by omega) hB fun g c w' hO hE => ?_
  refine h g c w' ?_ hE
  rw [List.map_append]; exact hO
theorem effE_below {V W W' : World} {e : TypeId} (hb : Below V.heap.size V W) (hE : EffE V.heap.size e W W') : Below V.heap.size V W' :=
  hb.trans ⟨hE.os, hE.tape, hE.output, hE.size, fun k hk => hE.block k (by have := hb.size; omega) (.inl hk)⟩
theorem effE_far {V W W' : World} {e : TypeId} (hb : Below V.heap.size V W) (hE : EffE V.heap.size e W W') : Below V.heap.size W W' := ⟨hE.os, hE.tape, hE.output, hE.size, fun k hk => hE.block k (by have := hb.size; omega) (.inl hk)⟩
/-- a new order: that of a box, with one pair more -/
def NewO (V : World) (n : Int) (m : Nat) (ps : List (Int × Int)) (x : Value) (W : World) : Prop := ∃ (b g c : Nat), x = .pointer (some ⟨b, 0, none⟩) ∧ Blk W b [.int .i64 n, .slice (some ⟨g, 0, none⟩) m c] 25 ∧ OwnR W V.heap.size 46 2 (.slice (some ⟨g, 0, none⟩) m c) (ps.map pairC) ∧ V.heap.size ≤ b
end Go.Proofs.YtnidcoinfmcffaaDoor
