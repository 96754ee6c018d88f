/- Walks of package statute: the function value isNot of find; first hits of a list. Conditions: who answers lies in memory; so answers for lesser numbers. -/
import Derived.Test.YtdjldidfnddpmaaGreatDoorStY
namespace Go.Proofs.YtdjldidfnddpmaaGreatDoor
open Go.RowKit Go.Maps
theorem find_at {α : Type} {p : α → Bool} {d : α} : ∀ {l : List α} {k : Nat}, k < l.length → (l.take k).any p = false → p (l.getD k d) = true → l.find? p = some (l.getD k d)
  | [], k, h, _, _ => by simp at h
  | x :: t, 0, _, _, h2 => by
    have h2 : p x = true := h2
    rw [List.find?_cons_of_pos h2]; rfl
  | x :: t, k + 1, h, h1, h2 => by
    rw [List.take_succ_cons, List.any_cons, Bool.or_eq_false_iff] at h1
    rw [List.find?_cons_of_neg (by rw [h1.1]; simp)]
    exact find_at (d := d) (by simpa using h) h1.2 h2
theorem find_no {α : Type} {p : α → Bool} {l : List α} (h : l.any p = false) : l.find? p = none := by
  rw [List.find?_eq_none]
  intro x hx
  rw [List.any_eq_false] at h
  exact h x hx
set_option maxHeartbeats 400000 in
theorem isnot_any (w0 : World) (J M bj : Nat) (cv rv fv Fv Cv : Value) (c : CodeD) (F C : List Nat) (ks : List Int) (x : Int) (hS : SoAt J M cv rv fv Fv Cv c F C x) (y : Int) (h0 : 0 ≤ y) (h1 : y < x) (w : World) (hj : w.cell? ⟨bj, 0, none⟩ = some (.pointer (some ⟨J, 0, none⟩))) (hw : KeptJ w0 J M cv rv fv Fv Cv c F C ks x w) :
    Calls Tryz.prog 66 #[.int .i64 y, .pointer (some ⟨bj, 0, none⟩)] w (RetI (KeptJ w0 J M cv rv fv Fv Cv c F C ks x) (.bool (!soN c F C y))) := by
  obtain ⟨hg, ks2, hJ, h2, h3⟩ := hw
  have HS := hide ((hS y h0 h1 w ks2 hJ).mono fun e W' hq => KeptJ.next hg h2 h3 h1 hq)
  have HY : Hid (soN c F C y = (findN c F C y.toNat).holds) := hide rfl
  clear hg hJ h2 h3 h0 h1 hS
  generalize (findN c F C y.toNat).holds = b at HS HY
  go_enter Tryz.func66, Tryz.ntmps66
  go_wp2_with fail
  refine HS.out.mono ?_
  rintro e w' ⟨rfl, hK⟩
  have HK := hide hK
  clear hK
  go_wp2_with fail
  go_ret
  exact ⟨ret_bool (by rw [HY.out]), HK.out⟩
/-- the function value isNot -/
theorem has_not (w0 : World) (J M bj : Nat) (T : TypeId) (cv rv fv Fv Cv : Value) (c : CodeD) (F C : List Nat) (ks0 ks : List Int) (x : Int) (hS : SoAt J M cv rv fv Fv Cv c F C x) (hJ0 : JudgeAt w0 J M cv rv fv Fv Cv c F C ks0) (hb : Blk w0 bj [.pointer (some ⟨J, 0, none⟩)] T) (l : List Int) (hl : ∀ y ∈ l, 0 ≤ y ∧ y < x) (v : Value) (w : World) (hv : ∀ W, KeptJ w0 J M cv rv fv Fv Cv c F C ks x W → IntsIn W.cell? v l) (hw : KeptJ w0 J M cv rv fv Fv Cv c F C ks x w) :
    Calls Tryz.prog 61 #[v, .func (.func 66) #[] #[.pointer (some ⟨bj, 0, none⟩)]] w (RetI (KeptJ w0 J M cv rv fv Fv Cv c F C ks x) (.bool (l.any fun y => !soN c F C y))) :=
  has_ints _ 66 #[.pointer (some ⟨bj, 0, none⟩)] (Go.Proofs.enters_of Tryz.func66 (by kernel_rfl) rfl) (fun y => !soN c F C y) l v w hv hw fun W hK y hy =>
    isnot_any w0 J M bj cv rv fv Fv Cv c F C ks x hS y (hl y hy).1 (hl y hy).2 W ((grown_blk hJ0.map hK.1 hb).cell 0 rfl) hK
end Go.Proofs.YtdjldidfnddpmaaGreatDoor
