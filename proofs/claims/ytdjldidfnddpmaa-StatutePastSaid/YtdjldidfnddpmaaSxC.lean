/- A list of findings without one of them, made by two appends. Conditions: how the list lies in memory; sizes. -/
import Derived.Test.YtdjldidfnddpmaaSxB
import Derived.Test.YtdjldidfnddpmaaAppS
namespace Go.Proofs.Ytdjldidfnddpmaa
open Go.RowKit
theorem map_take_flat {L : List (List Value)} {n : Nat} {j : Nat} {u : Value} (h : (L.take n).flatten[j]? = some u) : L.flatten[j]? = some u := by
  have e : L.flatten = (L.take n).flatten ++ (L.drop n).flatten := by rw [← List.flatten_append, List.take_append_drop]
  rw [e, List.getElem?_append_left (List.getElem?_eq_some_iff.1 h).1]
  exact h
theorem map_drop_flat {L : List (List Value)} {n k : Nat} (hL : ∀ r ∈ L, r.length = k) (hn : n ≤ L.length) {j : Nat} {u : Value} (h : (L.drop n).flatten[j]? = some u) : L.flatten[n * k + j]? = some u := by
  have e : L.flatten = (L.take n).flatten ++ (L.drop n).flatten := by rw [← List.flatten_append, List.take_append_drop]
  have h1 : (L.take n).flatten.length = n * k := by
    rw [flat_len fun r hr => hL r (List.mem_of_mem_take hr), List.length_take, Nat.min_eq_left hn]
  rw [e, List.getElem?_append_right (by omega), h1, Nat.add_sub_cancel_left]
  exact h
theorem less_take {w : World} {b o n m : Nat} {P : List FindD} (h : FindsIn w.cell? (.slice (some ⟨b, o, none⟩) n m) P) (k : Nat) : ∀ j u, ((P.take k).map findC).flatten[j]? = some u → w.cell? ((⟨b, o, none⟩ : Addr).add j) = some u := fun j u hj => by
  rw [List.map_take] at hj
  exact rec_news findC_len (by decide) h j u (map_take_flat hj)
theorem less_drop {w : World} {b o n m : Nat} {P : List FindD} (h : FindsIn w.cell? (.slice (some ⟨b, o, none⟩) n m) P) {k : Nat} (hk : k < P.length) {A : Addr} (hA : (if m = k + 1 then (some ⟨b, o, none⟩ : Option Addr) else some ⟨b, o + (k + 1) * 4, none⟩) = some A) : ∀ j u, ((P.drop (k + 1)).map findC).flatten[j]? = some u → w.cell? (A.add j) = some u := fun j u hj => by
  obtain ⟨a', n', e, h1, h2, h3⟩ := id h
  cases e
  by_cases hm : m = k + 1
  · have : P.drop (k + 1) = [] := List.drop_eq_nil_of_le (by omega)
    rw [this] at hj
    simp at hj
  · rw [if_neg hm] at hA
    cases hA
    rw [List.map_drop] at hj
    have h4 := map_drop_flat (k := 4) (fun r hr => by obtain ⟨x, -, rfl⟩ := List.mem_map.1 hr; rfl) (by rw [List.length_map]; omega) hj
    have h5 := rec_news findC_len (by decide) h _ _ h4
    rw [Addr.add_lit]
    rw [Addr.add_lit] at h5
    rwa [← Nat.add_assoc] at h5
theorem less_addr (m k b o : Nat) : ∃ A : Addr, (if m = k + 1 then (some ⟨b, o, none⟩ : Option Addr) else some ⟨b, o + (k + 1) * 4, none⟩) = some A := by
  by_cases h : m = k + 1
  · exact ⟨_, by rw [if_pos h]⟩
  · exact ⟨_, by rw [if_neg h]⟩
theorem less_eq (P : List FindD) (k : Nat) : ([] ++ (P.take k).map findC) ++ (P.drop (k + 1)).map findC = (P.eraseIdx k).map findC := by
  rw [List.nil_append, ← List.map_append, List.eraseIdx_eq_take_drop_succ]
end Go.Proofs.Ytdjldidfnddpmaa
