/- The keys of a map of the call's own, sorted: slices.Sorted(maps.Keys(m)) at map[int]bool, by the shelf's contracts. Conditions: how the map lies in memory; its size. -/
import Derived.Test.YtppfdjjhloaopaaPmodQ
import Derived.Test.YtppfdjjhloaopaaKeys
namespace Go.Proofs.Ytppfdjjhloaopaa
open Go.RowKit Go.Maps Go.Sort Go.Shelf

theorem keysort_in (m : Nat) : AnyZI.SortsIn Try.prog Try.sortedA_ren Fence.wide m :=
  ⟨fun blk off cap ss W hH hblk hsz => callsIn_wide.2 (AnyM.slices_Sort_int Try.sortA blk off cap ss W hH hblk hsz),
   fun p cap W => callsIn_wide.2 (AnyM.slices_Sort_int_none Try.sortA p cap W)⟩
theorem keys_any (mb : Option Nat) (W : World) : Calls Try.prog 43 #[.map mb] W fun e w' => e = .returned (.func (.func 66) #[] #[.pointer (some ⟨W.heap.size, 0, none⟩)]) ∧ w' = W.alloc (.cells #[.map mb] 76) :=
  (callsIn_wide (n := 5)).1 (AnyZI.keys_in Try.keysA Fence.wide 5 trivial rfl mb W)
def keyed (ks : List Int) : List Int := (intKeys (keysD ks)).mergeSort fun x y => decide (x ≤ y)
def KeyQ (ks : List Int) (w : World) (e : Ending) (w' : World) : Prop := ∃ v, e = .returned v ∧ IntsIn (frm w.heap.size w') v (keyed ks) ∧ Below w.heap.size w w'
theorem sorted_any (ks : List Int) (b n B : Nat) (w : World) (hB : w.cell? ⟨B, 0, none⟩ = some (.map (some b))) (hm : OwnM w b n ks) (hk : Maps.size (keysD ks) ≤ 1000000) :
    Calls Try.prog 42 #[.func (.func 66) #[] #[.pointer (some ⟨B, 0, none⟩)]] w (KeyQ ks w) := by
  have hmax : Maps.size (keysD ks) ≤ maxLen := by unfold maxLen; omega
  have hbytes : Maps.size (keysD ks) * 8 ≤ 140737488355328 := by omega
  have hseq : SeqGives Fence.wide 2 Try.prog 66 #[.pointer (some ⟨B, 0, none⟩)] encZ (fun ss => ss.Perm (intKeys (keysD ks))) (Maps.size (keysD ks)) w :=
    AnyZI.keys_gives (ρ := Try.keysA_ren) { Try.keysA with } Fence.wide _ trivial rfl (by omega) B b n (keysD ks) _ (lt_of_cell hB) hB hm
  have cS := AnyZI.sorted_in Try.sortedA Fence.wide 5 trivial trivial trivial trivial rfl (by omega) (keysort_in _) (enters_of Try.func65 (by kernel_rfl) rfl) 66 #[.pointer (some ⟨B, 0, none⟩)] trivial (enters_of Try.func66 (by kernel_rfl) rfl) _ _ hmax hbytes _ hseq
  change CallsIn _ _ Try.prog 42 _ _ _ at cS
  refine ((callsIn_wide (n := 5)).1 cS).mono ?_
  rintro e w' ⟨v, ss, rfl, hS, hrow, hnil, hb⟩
  refine ⟨v, rfl, ?_, hb⟩
  have e1 : ss.mergeSort (fun x y => decide (x ≤ y)) = keyed ks := mergeSort_of_perm_i hS
  have e2 : ss.length = (keyed ks).length := by rw [← e1]; simp
  rw [e1, e2] at hrow
  exact OwnI.intsF (B := w.heap.size) hrow (Nat.le_refl _)
theorem OwnM.size_le {w : World} {b n : Nat} {ks : List Int} (h : OwnM w b n ks) : Maps.size (keysD ks) ≤ n := by
  obtain ⟨es, clock, hb, F, hs, hD⟩ := h
  rw [hD]
  simpa [Maps.size, length_sorted] using hs
theorem sortednil_any (B : Nat) (w : World) (hB : w.cell? ⟨B, 0, none⟩ = some (.map none)) :
    Calls Try.prog 42 #[.func (.func 66) #[] #[.pointer (some ⟨B, 0, none⟩)]] w (Ret (.slice none 0 0) w) := by
  have hseq : SeqGives Fence.wide 2 Try.prog 66 #[.pointer (some ⟨B, 0, none⟩)] encZ (fun ss : List Int => ss = []) 0 w :=
    AnyZI.keys_gives_nil (ρ := Try.keysA_ren) { Try.keysA with } Fence.wide _ trivial rfl B _ (lt_of_cell hB) hB
  have cS := AnyZI.sorted_in Try.sortedA Fence.wide 5 trivial trivial trivial trivial rfl (by omega) (keysort_in _) (enters_of Try.func65 (by kernel_rfl) rfl) 66 #[.pointer (some ⟨B, 0, none⟩)] trivial (enters_of Try.func66 (by kernel_rfl) rfl) _ 0 (Nat.zero_le _) (by omega) _ hseq
  change CallsIn _ _ Try.prog 42 _ _ _ at cS
  refine ((callsIn_wide (n := 5)).1 cS).mono ?_
  rintro e w' ⟨v, ss, rfl, rfl, hrow, hnil, hb⟩
  obtain rfl : v = .slice none 0 0 := hnil.2 rfl
  exact ⟨rfl, hb⟩
end Go.Proofs.Ytppfdjjhloaopaa
