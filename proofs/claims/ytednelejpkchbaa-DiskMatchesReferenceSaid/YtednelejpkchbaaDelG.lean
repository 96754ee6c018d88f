/- slices.DeleteFunc with the closure of Crash. Conditions: how the arguments lie in memory. -/
import Derived.Test.YtednelejpkchbaaDelF
import Derived.Test.YtednelejpkchbaaBlkB
namespace Go.Proofs.Ytednelejpkchbaa
open Go.RowKit

def keepI (m : Nat) (l : List Int) : List Int := l.filter fun x => !outB m x
/-- behind j elements: those that stay lie ahead, what was not yet seen is as it was -/
structure DelSt (m : Nat) (l st : List Int) (j i : Nat) : Prop where
  len : st.length = l.length
  pre : st.take i = keepI m (l.take j)
  num : i = (keepI m (l.take j)).length
  rest : st.drop j = l.drop j
theorem keepI_len (m : Nat) (l : List Int) : (keepI m l).length ≤ l.length := List.length_filter_le _ _
theorem DelSt.le {m : Nat} {l st : List Int} {j i : Nat} (h : DelSt m l st j i) : i ≤ j := by
  have := keepI_len m (l.take j)
  rw [h.num]; rw [List.length_take] at this; omega
theorem DelSt.get {m : Nat} {l st : List Int} {j i : Nat} (h : DelSt m l st j i) (hj : j < l.length) : st.getD j 0 = l.getD j 0 := by
  have h1 : (st.drop j)[0]? = (l.drop j)[0]? := by rw [h.rest]
  rw [List.getElem?_drop, List.getElem?_drop] at h1
  rw [List.getD_eq_getElem?_getD, List.getD_eq_getElem?_getD]
  simpa using congrArg (·.getD 0) h1
theorem drop_succ_of {l st : List Int} {j : Nat} (h : st.drop j = l.drop j) : st.drop (j + 1) = l.drop (j + 1) := by
  rw [← List.drop_drop, ← List.drop_drop, h]
theorem DelSt.keep {m : Nat} {l st : List Int} {j i : Nat} (h : DelSt m l st j i) (hj : j < l.length) (hk : outB m (l.getD j 0) = false) : DelSt m l (st.set i (l.getD j 0)) (j + 1) (i + 1) := by
  have hi := h.le
  have e : keepI m (l.take (j + 1)) = keepI m (l.take j) ++ [l.getD j 0] := by
    unfold keepI; rw [take_snocI l j hj, List.filter_append]; simp only [List.filter_cons, hk]; simp
  have hlt : i < st.length := by have := h.len; omega
  refine ⟨by simpa using h.len, ?_, by rw [e, List.length_append, ← h.num]; rfl, ?_⟩
  · rw [e, ← h.pre, List.take_succ_eq_append_getElem (by simpa using hlt)]
    congr 1
    · rw [List.take_set_of_le (Nat.le_refl _)]
    · simp
  · rw [List.drop_set_of_lt (by omega)]; exact drop_succ_of h.rest
theorem DelSt.skip {m : Nat} {l st : List Int} {j i : Nat} (h : DelSt m l st j i) (hj : j < l.length) (hk : outB m (l.getD j 0) = true) : DelSt m l st (j + 1) i := by
  have e : keepI m (l.take (j + 1)) = keepI m (l.take j) := by
    unfold keepI; rw [take_snocI l j hj, List.filter_append]; simp only [List.filter_cons, hk]; simp
  exact ⟨h.len, by rw [e]; exact h.pre, by rw [e]; exact h.num, drop_succ_of h.rest⟩
theorem keepI_all {m : Nat} {l : List Int} (h : l.any (outB m) = false) : keepI m l = l := by
  unfold keepI
  rw [List.filter_eq_self]
  intro x hx
  have : ¬ (l.any (outB m) = true) := by rw [h]; simp
  rw [List.any_eq_true] at this
  cases hb : outB m x
  · rfl
  · exact absurd ⟨x, hx, hb⟩ this
theorem DelSt.start {m : Nat} {l : List Int} {k : Nat} (hk : k < l.length) (h : (l.take k).any (outB m) = false) (hx : outB m (l.getD k 0) = true) : DelSt m l l (k + 1) k := by
  have h0 : DelSt m l l k k := ⟨rfl, by rw [keepI_all h], by rw [keepI_all h, List.length_take]; omega, rfl⟩
  exact h0.skip hk hx
theorem Eff.cellE {S : Nat → Prop} {w w' : World} (h : Eff S w w') {a : Addr} {v : Value} (hn : ¬ S a.block) (hc : w.cell? a = some v) : w'.cell? a = some v :=
  (World.cell?_of_block (h.block a.block (lt_of_cell hc) hn)).trans hc
theorem Reads.eff {Bx D m g : Nat} {w w' : World} (h : Reads Bx D m w) (hE : Eff (· = g) w w') (hB : Bx ≠ g) (hD : D ≠ g) : Reads Bx D m w' :=
  ⟨hE.cellE (a := ⟨Bx, 0, none⟩) hB h.1, let ⟨p, c, h2⟩ := h.2; ⟨p, c, hE.cellE (a := ⟨D, 4, none⟩) hD h2⟩⟩
theorem zeroInt (w : World) : (zeroValue 3).run Try.prog w = .ok (.int .i64 0) w := by kernel_rfl
/-- clear(s[i:]) -/
theorem run_clear_from (w : World) (g i n c : Nat) (cur : Array Value) (hg : w.heap[g]? = some (.cells cur 3 (0, 0))) (hi : i ≤ n) (hn : n ≤ c) (hc : cur.size = c) :
    ∃ w', (∀ ty, (Builtin.clear_ #[37] ty #[.slice (some ⟨g, cutAt c i, none⟩) (n - i) (c - i)]).run Try.prog w = .ok (.tuple #[]) w') ∧ Eff (· = g) w w' ∧ ∃ cur' : Array Value, w'.heap[g]? = some (.cells cur' 3 (0, 0)) ∧ cur'.size = c ∧ cur'.toList.take i = cur.toList.take i := by
  have hu := Try.underlying37
  by_cases h0 : n - i = 0
  · refine ⟨w, fun ty => ?_, Eff.refl _ _, cur, hg, hc, rfl⟩
    rw [h0]; exact run_clear_none w _ ty _ _ _ hu
  · have hci : cutAt c i = i := by unfold cutAt; rw [if_neg (by omega)]
    have hone : ∀ v ∈ (Builtin.zeroCells #[Value.int .i64 0] (n - i)).toList, v.oneCell' = true := by
      intro v hv
      simp only [Builtin.zeroCells, Array.toList_map, List.mem_map] at hv
      obtain ⟨j, -, rfl⟩ := hv
      simp [Nat.mod_one]; rfl
    have hlen : (Builtin.zeroCells #[Value.int .i64 0] (n - i)).toList.length = n - i := by simp [Builtin.zeroCells]
    have hst := run_storeCells_at Try.prog g i 3 (Builtin.zeroCells #[Value.int .i64 0] (n - i)).toList 0 cur w hg (by rw [hlen]; omega) hone
    obtain ⟨q, hq⟩ : ∃ q, n - i = q + 1 := ⟨n - i - 1, by omega⟩
    obtain ⟨C, hC⟩ : ∃ C : Array Value, C = (cur.toList.take (i + 0) ++ (Builtin.zeroCells #[Value.int .i64 0] (n - i)).toList ++ cur.toList.drop (i + 0 + (n - i))).toArray := ⟨_, rfl⟩
    rw [hlen, ← hC] at hst
    refine ⟨w.setRow g C, fun ty => ?_, Eff.setRow w g _, C, setRow_heap w g _ _ _ _ hg, ?_, ?_⟩
    · rw [hci]
      have hz := zeroInt w
      rw [hq] at hst ⊢
      simp [Builtin.clear_, run_underlying hu, hz, Value.cells]
      simpa using congrArg (fun r => r.andThen fun _ w => Result.ok (Value.tuple #[]) w) hst
    · rw [hC]; simp [hlen]; omega
    · rw [hC]
      show List.take i (cur.toList.take (i + 0) ++ (Builtin.zeroCells #[Value.int .i64 0] (n - i)).toList ++ cur.toList.drop (i + 0 + (n - i))) = _
      rw [List.append_assoc, List.take_append_of_le_length (by simp; omega), Nat.add_zero, List.take_take, Nat.min_self]
end Go.Proofs.Ytednelejpkchbaa
