/- A map of findings of a call's own. Conditions: how it lies in memory; its size. -/
import Derived.Test.YtdjldidfnddpmaaGreatDoorStM
import Derived.Maps.OwnSet
import Derived.Maps.Views
import Derived.Maps.Keyed
namespace Go.Proofs.YtdjldidfnddpmaaGreatDoor
open Go.RowKit Go.Maps

/-- what the reader of an element says: the value itself -/
def readH (v : Value) : Option (DataW Value × List MemPlace) := some (.held v, [])
/-- a map that has some numbers, each with its value -/
def foundD (f : Int → Value) (ks : List Int) : DataW Value := ks.foldl (fun D k => D.put (.int .i64 k) (.held (f k))) (.map [])
theorem foundD_snoc (f : Int → Value) (ks : List Int) (k : Int) : foundD f (ks ++ [k]) = (foundD f ks).put (.int .i64 k) (.held (f k)) := by simp [foundD]
theorem snoc_ind {α : Type} {P : List α → Prop} (h0 : P []) (h1 : ∀ l x, P l → P (l ++ [x])) (l : List α) : P l := by
  have h : ∀ m : List α, P m.reverse := fun m => by
    induction m with
    | nil => exact h0
    | cons x m ih => rw [List.reverse_cons]; exact h1 _ _ ih
  have := h l.reverse
  rwa [List.reverse_reverse] at this
theorem foundD_isMap (f : Int → Value) (ks : List Int) : IsMap (foundD f ks) := by
  refine snoc_ind (P := fun ks => IsMap (foundD f ks)) isMap_empty (fun ks k ih => ?_) ks
  rw [foundD_snoc]
  obtain ⟨es, h⟩ := ih
  rw [h]; exact ⟨_, rfl⟩
theorem key_int (k : Int) : WideAt.IsKeyLit (.int .i64 k) := by simp [WideAt.IsKeyLit]
theorem foundD_has (f : Int → Value) (ks : List Int) (k : Int) : has (foundD f ks) (.int .i64 k) = decide (k ∈ ks) := by
  refine snoc_ind (P := fun ks => has (foundD f ks) (.int .i64 k) = decide (k ∈ ks)) (by simp [foundD, has]) (fun ks x ih => ?_) ks
  rw [foundD_snoc]
  by_cases e : k = x
  · subst e; rw [has_put_same (foundD_isMap f ks) (key_int k)]; simp
  · rw [has_put_other (by intro h; cases h; exact e rfl), ih]; simp [e]
theorem foundD_at (f : Int → Value) (ks : List Int) (k : Int) (z : DataW Value) : (foundD f ks).atKey (.int .i64 k) z = if k ∈ ks then .held (f k) else z := by
  refine snoc_ind (P := fun ks => (foundD f ks).atKey (.int .i64 k) z = if k ∈ ks then .held (f k) else z) (by simp [foundD, DataW.atKey]) (fun ks x ih => ?_) ks
  rw [foundD_snoc]
  by_cases e : k = x
  · subst e; rw [atKey_put_same (foundD_isMap f ks) (key_int k)]; simp
  · rw [atKey_put_other (by intro h; cases h; exact e rfl), ih]; simp [e]
end Go.Proofs.YtdjldidfnddpmaaGreatDoor
