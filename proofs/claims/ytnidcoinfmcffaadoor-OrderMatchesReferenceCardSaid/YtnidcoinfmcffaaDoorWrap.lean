/- Reading arguments as data, and what a law that only reads owes at its end. No condition. -/
import Derived.Test.YtnidcoinfmcffaaDoorRows
import Derived.WalkKit
import Derived.ProofKit
import Derived.OpenShut
namespace Go.Proofs.YtnidcoinfmcffaaDoor
open Go.ChangeShapes Go.WideShapes Go.ChangeAt Go.RowKit

section
variable {H : Type} {enc : TypeId × Value → H} {P : Program}
theorem trodAll_stays (hl : laidOutB P = true) {W W' : World} (hb : Below W.heap.size W W') :
  ∀ {ts : List TypeId} {vs : List Value} {ds : List (DataW H)} {ps : List MemPlace}, ts.all (fun t => P.readableRec t && decide (t < P.types.size)) = true → DataW.TrodAll enc P W 0 (fun _ => true) true ts vs ds ps → (∀ x ∈ ps, x.block < W.heap.size) →
   DataW.TrodAll enc P W' 0 (fun b => decide (b < W.heap.size)) true ts vs ds ps
 | [], [], [], _, _, h, _ => h
 | t :: ts, v :: vs, d :: ds, ps, ht, h, hlt => by
  obtain ⟨p, q, h1, h2, rfl⟩ := h
  rw [List.all_cons, Bool.and_eq_true, Bool.and_eq_true, decide_eq_true_eq] at ht
  exact ⟨p, q, Below.trod hl ht.1.1 ht.1.2 h1 hb (fun x hx => hlt x (List.mem_append_left _ hx)), trodAll_stays hl hb ht.2 h2 (fun x hx => hlt x (List.mem_append_right _ hx)), rfl⟩
 | [], _ :: _, _, _, _, h, _ => h.elim
 | [], [], _ :: _, _, _, h, _ => h.elim
 | _ :: _, [], _, _, _, h, _ => h.elim
 | _ :: _, _ :: _, [], _, _, h, _ => h.elim
/-- what a law that has turned nothing owes -/
theorem post_law {f : Func} {s : ChangeSpec} {W W' : World} {args : Array Value} {ds : List (DataW H)} {before : List MemPlace} {tb : TypeId} (hl : laidOutB P = true)
  (hts : f.params.toList.all (fun t => P.readableRec t && decide (t < P.types.size)) = true) (hvars : s.vars = []) (hres : f.resultTypes = #[tb]) (hbool : P.underlying tb = some .bool)
  (hspec : s.fn H (ds ++ []) = { results := [.lit (.bool true)], args := ds }) (hW : DataW.Whole enc P f.params.toList s.vars false W args.toList ds [] before) (hb : Below W.heap.size W W') :
  s.post enc P f false true false false W args (.bool true) W' := by
 have hlt : ∀ x ∈ before, x.block < W.heap.size := fun x hx => by simpa using hW.lt x hx
 obtain ⟨p, q, h1, h2, rfl, h4, h5⟩ := id hW
 rw [hvars] at h2
 have hq : q = [] := h2
 subst hq
 refine ⟨ds, [], p ++ [], [], p, [], hW, ?_, ?_, ?_, hb.frame _, fun h => by cases h⟩
 ·rw [hres, hspec]
  exact ⟨[], [], ⟨1, by simp [DataW.trod, hbool, Value.cells]⟩, rfl, rfl⟩
 ·rw [hspec]
  exact trodAll_stays hl hb hts h1 (fun x hx => hlt x (by simpa using hx))
 ·rw [hspec, hvars]; rfl
end

section
variable {H : Type} {enc : TypeId × Value → H} {P : Program} {w : World} {base : Nat} {sp : Nat → Bool} {held : Bool}
/-- a slice whose elements' cells (k each) R reads -/
def SliceR {α : Type} (k : Nat) (R : List Value → α → Prop) (d : α) (c : Addr → Option Value) (v : Value) (l : List α) : Prop :=
 ∃ a n, v = .slice a l.length n ∧ l.length ≤ n ∧ n ≤ 9223372036854775807 ∧ ∀ i, i < l.length → ∃ b o cs, a = some ⟨b, o, none⟩ ∧ cs.length = k ∧ R cs (l.getD i d) ∧ ∀ j, j < k → c ⟨b, o + i * k + j, none⟩ = cs[j]?
theorem add_addr {b o : Nat} (k : Nat) : (⟨b, o, none⟩ : Addr).add k = ⟨b, o + k, none⟩ := by cases k <;> simp [Addr.add]
theorem trod_sliceR {α : Type} {k : Nat} {R : List Value → α → Prop} (d : α) {t e : TypeId} {fuel : Nat} {cs : List Value} {x : DataW H × List MemPlace} (hk : 0 < k) (ht : P.underlying t = some (.slice e)) (hc : P.cellsOf e = k)
  (he : ∀ n y cs, cs.length = k → DataW.trod enc P w base sp held n e cs = some y → ∃ x, R cs x) (h : DataW.trod enc P w base sp held fuel t cs = some x) : ∃ v l, cs = [v] ∧ SliceR k R d w.cell? v l := by
 rcases DataW.trod_slice ht h with ⟨rfl, -⟩ | ⟨a, len, cap, elems, rest, n, -, rfl, -, hb, hl, hm, hlen, hel, -, -⟩
 ·exact ⟨_, [], rfl, none, 0, rfl, Nat.le_refl _, by omega, fun i hi => by simp at hi⟩
 ·have each : ∀ i : Nat, ∃ (q : List Value × α), i < len → q.1.length = k ∧ R q.1 q.2 ∧ ∀ j, j < k → w.cell? ((a.add (i * k)).add j) = q.1[j]? := fun i => by
   by_cases hi : i < len
   ·have h1 := hel i hi
    rw [List.getElem?_eq_getElem (by omega), hc, Option.bind_eq_some_iff] at h1
    obtain ⟨cs', h2, h3⟩ := h1
    obtain ⟨-, h4, h5⟩ := World.cells?_some h2
    obtain ⟨y, hy⟩ := he _ _ _ h4 h3
    exact ⟨(cs', y), fun _ => ⟨h4, hy, h5⟩⟩
   ·exact ⟨([], d), fun h => absurd h hi⟩
  obtain ⟨f, hf⟩ := Classical.axiomOfChoice each
  have hget : ∀ i, i < len → ((List.range len).map fun i => (f i).2).getD i d = (f i).2 := fun i hi => by
   rw [List.getD_eq_getElem?_getD, List.getElem?_map, List.getElem?_range hi]; rfl
  refine ⟨_, (List.range len).map fun i => (f i).2, rfl, some a, cap, by simp, by simpa using hl, by simpa [maxLen] using hm, fun i hi => ?_⟩
  have hi' : i < len := by simpa using hi
  obtain ⟨g1, g2, g3⟩ := hf i hi'
  obtain ⟨b, o, s⟩ := a
  have hs : s = none := by
   obtain ⟨z1, -, z3⟩ := hf 0 (by omega)
   have := z3 0 hk
   rw [List.getElem?_eq_getElem (by omega), Nat.zero_mul] at this
   have h8 := World.cell?_spot this
   simpa [Addr.add] using h8
  subst hs
  refine ⟨b, o, (f i).1, rfl, g1, by rw [hget i hi']; exact g2, fun j hj => ?_⟩
  have := g3 j hj
  rwa [add_addr, add_addr] at this
theorem trod_i64 {e : TypeId} (he : P.underlying e = some (.int .i64)) {n : Nat} {y : DataW H × List MemPlace} {cs : List Value} (h : DataW.trod enc P w base sp held n e cs = some y) : ∃ x : Int, cs = [.int .i64 x] ∧ -9223372036854775808 ≤ x ∧ x ≤ 9223372036854775807 := by
 obtain ⟨x, h1, -, h3⟩ := DataW.trod_int he h
 exact ⟨x, h1, bounds_i64 h3⟩
theorem trod_arr {t e : TypeId} {n : Nat} (ht : P.underlying t = some (.array n e)) (he : P.underlying e = some (.int .i64)) (hc : P.cellsOf e = 1) (hn : P.cellsOf t = n) {m : Nat} {y : DataW H × List MemPlace} {cs : List Value} (h : DataW.trod enc P w base sp held m t cs = some y) :
  ∃ l : List Int, l.length = n ∧ cs = l.map (Value.int .i64) ∧ ∀ x ∈ l, -9223372036854775808 ≤ x ∧ x ≤ 9223372036854775807 := by
 obtain ⟨xs, m', -, -, h1, h2, h3⟩ := DataW.trod_array ht h
 rw [hn] at h1
 have each : ∀ i : Nat, ∃ x : Int, i < n → cs[i]? = some (.int .i64 x) ∧ -9223372036854775808 ≤ x ∧ x ≤ 9223372036854775807 := fun i => by
  by_cases hi : i < n
  ·have h4 := h3 i hi
   rw [List.getElem?_eq_getElem (by omega), hc, Nat.mul_one] at h4
   obtain ⟨x, h5, h6⟩ := trod_i64 he h4
   refine ⟨x, fun _ => ⟨?_, h6⟩⟩
   have h7 : ((cs.drop i).take 1)[0]? = some (.int .i64 x) := by rw [h5]; rfl
   rwa [List.getElem?_take_of_lt (by omega), List.getElem?_drop, Nat.add_zero] at h7
  ·exact ⟨0, fun h => absurd h hi⟩
 obtain ⟨f, hf⟩ := Classical.axiomOfChoice each
 refine ⟨(List.range n).map f, by simp, ?_, fun x hx => ?_⟩
 ·refine List.ext_getElem? fun i => ?_
  by_cases hi : i < n
  ·rw [(hf i hi).1, List.getElem?_map, List.getElem?_map, List.getElem?_range hi]; rfl
  ·rw [List.getElem?_eq_none (by omega), List.getElem?_eq_none (by simp; omega)]
 ·obtain ⟨i, hi, rfl⟩ := List.mem_map.1 hx
  exact (hf i (List.mem_range.1 hi)).2
/-- an array by value -/
theorem open_arr64 {r : Reach} {b0 : Nat} {t e : TypeId} {n : Nat} (ht : P.underlying t = some (.array n e)) (he : P.underlying e = some (.int .i64)) (hc : P.cellsOf e = 1) (hn : P.cellsOf t = n) {v : Value} {d : DataW H} {ps : List MemPlace}
  (hv : Value.okWide P w r b0 t v) (h : DataW.Trod enc P w base sp held t v d ps) : ∃ l : List Int, l.length = n ∧ v = .agg (l.map (Value.int .i64)).toArray ∧ ∀ x ∈ l, -9223372036854775808 ≤ x ∧ x ≤ 9223372036854775807 := by
 obtain ⟨cs, rfl, -⟩ : ∃ cs, v = .agg cs ∧ cs.size = P.cellsOf t := by
  simp only [Value.okWide, ht] at hv
  obtain ⟨cs, h1, h2, -⟩ := hv
  exact ⟨cs, h1, h2⟩
 obtain ⟨m, hm⟩ := h
 obtain ⟨l, h1, h2, h3⟩ := trod_arr ht he hc hn hm
 refine ⟨l, h1, ?_, h3⟩
 rw [← h2]; simp [Value.cells]
theorem open_sliceR {α : Type} {k : Nat} {R : List Value → α → Prop} (d : α) {r : Reach} {b0 : Nat} {t e : TypeId} (hk : 0 < k) (ht : P.underlying t = some (.slice e)) (hc : P.cellsOf e = k)
  (he : ∀ n y cs, cs.length = k → DataW.trod enc P w base sp held n e cs = some y → ∃ x, R cs x) {v : Value} {d' : DataW H} {ps : List MemPlace} (hv : Value.okWide P w r b0 t v) (h : DataW.Trod enc P w base sp held t v d' ps) :
  ∃ l, SliceR k R d w.cell? v l := by
 obtain ⟨a, len, cap, rfl⟩ := okWide_slice ht hv
 obtain ⟨m, hm⟩ := h
 obtain ⟨v', l, h1, h2⟩ := trod_sliceR d hk ht hc he hm
 have e : v' = .slice a len cap := by simp [Value.cells] at h1; exact h1.symm
 exact ⟨l, e ▸ h2⟩
end
end Go.Proofs.YtnidcoinfmcffaaDoor
