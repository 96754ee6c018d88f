/- Cutting one element out of a list of integers by append(l[:k:k], l[k+1:]...). Conditions: how the list lies in memory. -/
import Derived.Test.YtnidcoinfmcffaaDoorOtC
namespace Go.Proofs.YtnidcoinfmcffaaDoor
open Go.RowKit
theorem run_app_none {w : World} {a1 a2 : Option Addr} {k c2 : Nat} (ty : TypeId) : (Builtin.append_ #[26, 26] ty #[.slice a1 k k, .slice a2 0 c2]).run Tryd.prog w = .ok (.slice a1 k k) w := by
 obtain ⟨i0, hi, hz0, hz1, hz2⟩ := info_parts infoInt
 cases a1 <;> cases a2 <;> simp [Builtin.append_, run_underlying Tryd.underlying26, sizeOf, typeInfo, hi, Builtin.lenOf, Builtin.firstCells, loadCells, loadCellsFrom, storeCells]
theorem ints_cells {w : World} {a : Option Addr} {n c : Nat} {l : List Int} (h : IntsIn w.cell? (.slice a n c) l) : ∀ b, a = some b → ∀ j u, (l.map (Value.int .i64))[j]? = some u → w.cell? (b.add j) = some u := fun b hb j u hj => by
 subst hb
 rw [List.getElem?_map] at hj
 cases hl : l[j]? with
 | none => simp [hl] at hj
 | some y =>
  have hjl : j < l.length := (List.getElem?_eq_some_iff.1 hl).1
  obtain ⟨a', n', e, -, -, hc⟩ := h
  cases e
  obtain ⟨b', o', e, hcl⟩ := hc j hjl
  cases e
  have : u = .int .i64 (l.getD j 0) := by rw [hl] at hj; rw [List.getD_eq_getElem?_getD, hl]; simpa using hj.symm
  rw [this]
  cases j <;> simpa [Addr.add] using hcl
theorem ints_form {c : Rd} {a : Option Addr} {n m : Nat} {l : List Int} (h : IntsIn c (.slice a n m) l) : n = l.length := by
 obtain ⟨a', m', e, -⟩ := h
 exact (Value.slice.inj e).2.1
theorem app_cut {w : World} {ops : Array Oper} {rest : List Oper} {o : Oper} {a : Act} {Q : Exit → Act → World → Prop} (hgd : o.guard = none) (s x : Operand)
  (ho : o.op = .call { callee := .builtin .append, args := #[s, x], argTypes := #[26, 26] }) (a1 a2 : Option Addr) (k m c2 : Nat) (L1 L2 : List Int) (hs : a.eval s = .slice a1 k k) (h1 : IntsIn w.cell? (.slice a1 k k) L1)
  (hx : a.eval x = .slice a2 m c2) (h2 : IntsIn w.cell? (.slice a2 m c2) L2) (hlen : L1.length + L2.length < 1000000)
  (h : ∀ v' w', ((v' = .slice a1 k k ∧ w' = w ∧ L2 = []) ∨ (OwnI w' w.heap.size v' (L1 ++ L2) ∧ w.grownBy w' none)) → wpList Tryd.prog ops Q rest (a.put o.dst v') w') :
  wpList Tryd.prog ops Q (o :: rest) a w := by
 have e1 := ints_form h1
 have e2 := ints_form h2
 by_cases hm : L2 = []
 ·have hm0 : m = 0 := by rw [e2, hm]; rfl
  subst hm0
  refine wpList_plain hgd fun K hK => ?_
  unfold Oper.wp execOp
  simp only [ho, resolve, invoke, builtin, Sem.run_bind, Sem.run_pure, Result.andThen_ok, List.map_toArray, List.map_cons, List.map_nil, hs, hx, run_app_none]
  exact hK _ _ (h _ _ (.inl ⟨rfl, rfl, hm⟩))
 ·have hm0 : 0 < L2.length := List.length_pos_iff.2 hm
  obtain ⟨a', m', e, -, -, hc⟩ := id h2
  obtain ⟨b, o', e', -⟩ := hc 0 hm0
  obtain ⟨ea, -, -⟩ := Value.slice.inj e
  subst ea
  obtain ⟨i0, hi, hz0, hz1, hz2⟩ := info_parts infoInt
  refine wpList_append_grows w hgd s x 26 ho 3 i0 (.int .i64 0) 1 8 Tryd.underlying26 hi hz0 hz1 hz2 rfl (by decide) a1 k k (L1.map (Value.int .i64)) hs (fun e3 => ?_) (by simp [e1]) (ints_cells h1) ⟨b, o', none⟩ m c2 (L2.map (Value.int .i64)) (by rw [hx, e']) (by simp [e2]) (ints_cells h2 _ e') (by intro u hu; obtain ⟨y, -, rfl⟩ := List.mem_map.1 hu; rfl) (by omega) (by unfold maxLen; omega) (by omega) fun v' w' h3 h4 => ?_
  ·have : k = 0 := by
    rcases Nat.eq_zero_or_pos k with h0 | h0
    ·exact h0
    ·obtain ⟨a9, m9, e9, -, -, hc9⟩ := id h1
     obtain ⟨b9, o9, e8, -⟩ := hc9 0 (by omega)
     obtain ⟨ea, -, -⟩ := Value.slice.inj e9
     rw [← ea, e3] at e8; cases e8
   exact ⟨this, this⟩
  ·refine h _ _ (.inr ⟨?_, h4⟩)
   have e5 : (L1 ++ L2).length = k + m := by rw [List.length_append, e1, e2]
   show World.ownsRow _ _ _ _ _ _ _
   rw [e5, List.map_append]
   exact h3
/-- a list that lies in no block of an own one -/
def offV (pv : Value) (c : Rd) : Rd := fun a => if some a.block = pv.ownBlock then none else c a
theorem offV_at {pv : Value} {c : Rd} : Keeps (offV pv c) c := fun a v h => by
 unfold offV at h
 split at h
 ·cases h
 ·exact h
theorem IntsIn.take {c : Rd} {a : Option Addr} {n m k : Nat} {l : List Int} (h : IntsIn c (.slice a n m) l) (hk : k ≤ l.length) : IntsIn c (.slice a k k) (l.take k) := by
 obtain ⟨a', m', e, h1, h2, h3⟩ := h
 obtain ⟨rfl, -, -⟩ := Value.slice.inj e
 have hl : (l.take k).length = k := by rw [List.length_take]; omega
 refine ⟨a, k, by rw [hl], by omega, by omega, fun i hi => ?_⟩
 rw [hl] at hi
 obtain ⟨b, o, e1, e2⟩ := h3 i (by omega)
 refine ⟨b, o, e1, ?_⟩
 have e3 : (l.take k).getD i 0 = l.getD i 0 := by rw [List.getD_eq_getElem?_getD, List.getElem?_take_of_lt hi, List.getD_eq_getElem?_getD]
 rw [e3]; exact e2
theorem IntsIn.drop {c : Rd} {b o n m k : Nat} {l : List Int} {a2 : Option Addr} (h : IntsIn c (.slice (some ⟨b, o, none⟩) n m) l) (hk : k ≤ l.length) (ha : k < l.length → a2 = some ⟨b, o + k, none⟩) : IntsIn c (.slice a2 (n - k) (m - k)) (l.drop k) := by
 obtain ⟨a', m', e, h1, h2, h3⟩ := h
 obtain ⟨e1, e2, e3⟩ := Value.slice.inj e
 subst e2 e3
 refine ⟨a2, _, by rw [List.length_drop], by rw [List.length_drop]; omega, by omega, fun i hi => ?_⟩
 rw [List.length_drop] at hi
 obtain ⟨b', o', e4, e5⟩ := h3 (k + i) (by omega)
 rw [← e1] at e4
 cases e4
 refine ⟨b, o + k, ha (by omega), ?_⟩
 have e6 : (l.drop k).getD i 0 = l.getD (k + i) 0 := by rw [List.getD_eq_getElem?_getD, List.getElem?_drop, List.getD_eq_getElem?_getD]
 rw [e6, Nat.add_assoc]; exact e5
end Go.Proofs.YtnidcoinfmcffaaDoor
