/- Lists of own lists of integers: one more list; one more integer in one of them. Conditions: how they lie in memory. -/
import Derived.Test.YtnidcoinfmcffaaDoorOsV
namespace Go.Proofs.YtnidcoinfmcffaaDoor
open Go.RowKit
/-- a slice of slices of integers -/
def ListsIn (c : Rd) (v : Value) (L : List (List Int)) : Prop :=
 ∃ a n, v = .slice a L.length n ∧ L.length ≤ n ∧ n ≤ 9223372036854775807 ∧ ∀ i, i < L.length → ∃ b o u, a = some ⟨b, o, none⟩ ∧ c ⟨b, o + i, none⟩ = some u ∧ IntsIn c u (L.getD i [])
abbrev nilS : Value := .slice none 0 0
/-- own lists, apart from one another -/
structure OwnL (W : World) (B : Nat) (v : Value) (us : List Value) (L : List (List Int)) : Prop where
 len : us.length = L.length
 row : OwnR W B 26 1 v (us.map fun u => [u])
 each : ∀ i, i < L.length → OwnI W B (us.getD i nilS) (L.getD i [])
 apart : ∀ i j, i < L.length → j < L.length → i ≠ j → ∀ g, (us.getD i nilS).ownBlock = some g → (us.getD j nilS).ownBlock ≠ some g
theorem OwnL.nil (W : World) (B : Nat) : OwnL W B nilS [] [] := ⟨rfl, OwnR.nil _ _ _ _, fun _ h => absurd h (Nat.not_lt_zero _), fun _ _ h => absurd h (Nat.not_lt_zero _)⟩
theorem own_types {W : World} {B B' k : Nat} {e : TypeId} {v u : Value} {L : List (List Value)} {l : List Int} (h : OwnR W B e k v L) (hu : OwnI W B' u l) (he : e ≠ 3) {g : Nat} (hg : v.ownBlock = some g) : u.ownBlock ≠ some g := by
 intro hug
 rcases h.form with ⟨rfl, -⟩ | ⟨g1, c, cur, rfl, -, e3, -⟩
 ·cases hg
 ·obtain rfl : g1 = g := Option.some.inj hg
  rcases hu.2 with ⟨rfl, -⟩ | ⟨g2, cap, cur2, rfl, -, e4, -⟩
  ·cases hug
  ·obtain rfl : g2 = g1 := Option.some.inj hug
   have := e3.symm.trans e4
   simp at this; exact he this.2
theorem OwnI.ltB {W : World} {B : Nat} {u : Value} {l : List Int} (h : OwnI W B u l) {g : Nat} (hg : u.ownBlock = some g) : B ≤ g ∧ g < W.heap.size := World.ownsRow.lt (show W.ownsRow B 3 1 u l.length _ from h) g hg
theorem OwnR.ltB {W : World} {B k : Nat} {e : TypeId} {v : Value} {L : List (List Value)} (h : OwnR W B e k v L) {g : Nat} (hg : v.ownBlock = some g) : B ≤ g ∧ g < W.heap.size := World.ownsRow.lt h.1 g hg
theorem getD_snoc {α : Type} (l : List α) (x d : α) (i : Nat) (hi : i < l.length + 1) : (l ++ [x]).getD i d = if i < l.length then l.getD i d else x := by
 split
 ·rename_i h; rw [List.getD_eq_getElem?_getD, List.getElem?_append_left h, List.getD_eq_getElem?_getD]
 ·obtain rfl : i = l.length := by omega
  simp [List.getD_eq_getElem?_getD]
theorem OwnL.push {W W' : World} {B : Nat} {v v' : Value} {us : List Value} {L : List (List Int)} (h : OwnL W B v us L) (hr : OwnR W' B 26 1 v' ((us.map fun u => [u]) ++ [[nilS]])) (hE : Eff (fun k => some k = v.ownBlock) W W') :
  OwnL W' B v' (us ++ [nilS]) (L ++ [[]]) := by
 refine ⟨by simp [h.len], by rw [List.map_append]; exact hr, fun i hi => ?_, fun i j hi hj hij g hg => ?_⟩
 ·rw [List.length_append, List.length_singleton] at hi
  rw [getD_snoc _ _ _ _ (by rw [h.len]; exact hi), getD_snoc _ _ _ _ hi, h.len]
  split
  ·rename_i hl
   exact OwnI.eff (h.each i hl) hE fun g hg e => own_types h.row (h.each i hl) (by decide) e.symm hg
  ·exact OwnI.nil _ _
 ·rw [List.length_append, List.length_singleton] at hi hj
  rw [getD_snoc _ _ _ _ (by rw [h.len]; exact hi), h.len] at hg
  rw [getD_snoc _ _ _ _ (by rw [h.len]; exact hj), h.len]
  split at hg
  ·split
   ·exact h.apart i j ‹_› ‹_› hij g hg
   ·intro e; cases e
  ·cases hg
theorem getD_setL {α : Type} (l : List α) (k i : Nat) (x d : α) (hk : k < l.length) : (l.set k x).getD i d = if i = k then x else l.getD i d := by
 split
 ·rename_i e; subst e; rw [List.getD_eq_getElem?_getD, List.getElem?_set_self hk]; rfl
 ·rename_i e; rw [List.getD_eq_getElem?_getD, List.getElem?_set_ne (Ne.symm e), List.getD_eq_getElem?_getD]
theorem OwnL.put {W W1 : World} {B gv n c k : Nat} {us : List Value} {L : List (List Int)} {u' : Value} {l' : List Int} (h : OwnL W B (.slice (some ⟨gv, 0, none⟩) n c) us L) (hk : k < L.length) (hu : OwnI W1 B u' l')
  (hE : Eff (fun j => some j = (us.getD k nilS).ownBlock) W W1) (hs : u'.ownBlock = (us.getD k nilS).ownBlock ∨ ∀ g, u'.ownBlock = some g → W.heap.size ≤ g) :
  OwnL (W1.setCell ⟨gv, k, none⟩ u') B (.slice (some ⟨gv, 0, none⟩) n c) (us.set k u') (L.set k l') := by
 have hku : k < us.length := by rw [h.len]; exact hk
 have hrow : OwnR W1 B 26 1 (.slice (some ⟨gv, 0, none⟩) n c) (us.map fun u => [u]) := OwnR.eff h.row hE fun g hg e => own_types h.row (h.each k hk) (by decide) hg e.symm
 obtain rfl : n = (us.map fun u => [u]).length := by
  rcases hrow.form with ⟨e, -⟩ | ⟨g', c', cur, e1, -⟩
  ·cases e
  ·cases e1; rfl
 have hgv : gv < W.heap.size := (h.row.ltB rfl).2
 have hset := hrow.set k 0 (by rw [List.length_map]; exact hku) (by decide) u'
 have hold : ∀ i, i < L.length → i ≠ k → OwnI W1 B (us.getD i nilS) (L.getD i []) := fun i hi hik => OwnI.eff (h.each i hi) hE fun g hg e => h.apart i k hi hk hik g hg e.symm
 have hfix : ∀ {u : Value} {l : List Int}, OwnI W1 B u l → OwnI (W1.setCell ⟨gv, k, none⟩ u') B u l := fun ho => OwnI.eff ho (Eff.setCell W1 gv k u') fun g hg e => by
  subst e; exact own_types hrow ho (by decide) rfl hg
 refine ⟨by simp [h.len], ?_, fun i hi => ?_, fun i j hi hj hij g hg => ?_⟩
 ·rw [Nat.mul_one, Nat.add_zero] at hset
  have e : (us.map fun u => [u]).set k (((us.map fun u => [u]).getD k []).set 0 u') = (us.set k u').map fun u => [u] := by
   rw [List.map_set]
   congr 1
   rw [List.getD_eq_getElem?_getD, List.getElem?_map, List.getElem?_eq_getElem hku]; rfl
  rw [e] at hset
  exact hset
 ·rw [List.length_set] at hi
  rw [getD_setL _ _ _ _ _ hku, getD_setL _ _ _ _ _ hk]
  split
  ·exact hfix hu
  ·exact hfix (hold i hi ‹_›)
 ·rw [List.length_set] at hi hj
  rw [getD_setL _ _ _ _ _ hku] at hg ⊢
  split at hg
  ·rename_i e; subst e
   rw [if_neg (fun e => hij e.symm)]
   rcases hs with hs | hs
   ·rw [hs] at hg
    exact h.apart i j hk hj hij g hg
   ·intro e
    have := ((h.each j hj).ltB e).2
    have := hs g hg
    omega
  ·rename_i hik
   split
   ·rename_i e; subst e
    intro e
    rcases hs with hs | hs
    ·rw [hs] at e
     exact h.apart i j hi hk hik g hg e
    ·have := ((h.each i hi).ltB hg).2
     have := hs g e
     omega
   ·exact h.apart i j hi hj hij g hg
theorem OwnL.later {W W' : World} {B : Nat} {v : Value} {us : List Value} {L : List (List Int)} (h : OwnL W B v us L) (S : Nat → Prop) (hE : Eff S W W') (hS : ∀ k, B ≤ k → ¬ S k) : OwnL W' B v us L :=
 ⟨h.len, OwnR.eff h.row hE fun g hg => hS g (h.row.ltB hg).1, fun i hi => OwnI.eff (h.each i hi) hE fun g hg => hS g ((h.each i hi).ltB hg).1, h.apart⟩
theorem OwnL.inF {W : World} {B B' : Nat} {v : Value} {us : List Value} {L : List (List Int)} (h : OwnL W B v us L) (hB : B' ≤ B) : ListsIn (frm B' W) v L := by
 rcases h.row.form with ⟨rfl, e⟩ | ⟨g, c, cur, rfl, e1, e2, e3, e4⟩
 ·have : L = [] := List.eq_nil_of_length_eq_zero (by rw [← h.len]; have := congrArg List.length e; simpa using this)
  subst this
  exact ⟨none, 0, rfl, Nat.le_refl _, by omega, fun i hi => by simp at hi⟩
 ·rw [List.length_map, h.len] at e3
  refine ⟨some ⟨g, 0, none⟩, c, by rw [List.length_map, h.len], e3, by simpa [maxLen] using e4, fun i hi => ⟨g, 0, us.getD i nilS, rfl, ?_, (h.each i hi).intsF hB⟩⟩
  rw [Nat.zero_add]
  have hiu : i < us.length := by rw [h.len]; exact hi
  have := h.row.cell i 0 (u := us.getD i nilS) (by rw [List.length_map]; exact hiu) (by decide) (by
   rw [List.getD_eq_getElem?_getD, List.getElem?_map, List.getElem?_eq_getElem hiu, List.getD_eq_getElem?_getD, List.getElem?_eq_getElem hiu]; rfl)
  rw [Nat.mul_one, Nat.add_zero] at this
  exact frm_pos (by omega) this
theorem infoSli : (Tryd.prog.info? 26).map (fun i => (i.zero, i.size, i.bytes)) = some (some (.slice none 0 0), 1, 24) := by kernel_rfl
/-- the map of places -/
def cvG (p : Nat → Option Nat) : Int → Option Value := fun x => if x < 0 then none else (p x.toNat).map fun k => .int .i64 (k : Nat)
theorem cvG_none : cvG (fun _ => none) = fun _ => none := by funext x; unfold cvG; split <;> rfl
theorem cvG_neg (p : Nat → Option Nat) : cvG p (-1) = none := by unfold cvG; rw [if_pos (by omega)]
theorem cvG_at (p : Nat → Option Nat) (x : Nat) : cvG p (x : Int) = (p x).map fun k => .int .i64 (k : Nat) := by unfold cvG; rw [if_neg (by omega), Int.toNat_natCast]
theorem cvG_put (p : Nat → Option Nat) (x k : Nat) : putO' (cvG p) (x : Int) (.int .i64 (k : Nat)) = cvG (fun y => if y = x then some k else p y) := by
 funext y
 unfold putO' cvG
 by_cases e : y = (x : Int)
 ·subst e; rw [if_pos rfl, if_neg (by omega), Int.toNat_natCast]; show _ = Option.map _ (if x = x then some k else p x); rw [if_pos rfl]; rfl
 ·rw [if_neg e]
  split
  ·rfl
  ·show _ = Option.map _ (if y.toNat = x then some k else p y.toNat)
   rw [if_neg (by omega)]
def natsL (L : List (List Nat)) : List (List Int) := L.map natsO
theorem natsL_len (L : List (List Nat)) : (natsL L).length = L.length := by unfold natsL; rw [List.length_map]
theorem natsL_get (L : List (List Nat)) (k : Nat) : (natsL L).getD k [] = natsO (L.getD k []) := by
 unfold natsL
 rw [List.getD_eq_getElem?_getD, List.getElem?_map, List.getD_eq_getElem?_getD]
 cases L[k]? <;> rfl
theorem natsO_snoc (l : List Nat) (x : Nat) : natsO (l ++ [x]) = natsO l ++ [(x : Int)] := by simp [natsO]
theorem natsL_set (L : List (List Nat)) (k : Nat) (l : List Nat) : natsL (L.set k l) = (natsL L).set k (natsO l) := by unfold natsL; rw [List.map_set]
theorem natsL_snoc (L : List (List Nat)) (l : List Nat) : natsL (L ++ [l]) = natsL L ++ [natsO l] := by unfold natsL; rw [List.map_append]; rfl
/-- chains as a function returns them -/
def ListsEQ (L : List (List Int)) (w : World) (e : Ending) (w' : World) : Prop := ∃ v, e = .returned (.tuple #[v, .int .i64 0]) ∧ ListsIn (frm w.heap.size w') v L ∧ Below w.heap.size w w'
end Go.Proofs.YtnidcoinfmcffaaDoor
