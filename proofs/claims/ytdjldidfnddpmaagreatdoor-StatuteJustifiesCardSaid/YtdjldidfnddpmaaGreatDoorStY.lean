/- slices.IndexFunc and ContainsFunc at ints for a bound method; the function values that find makes. Conditions: who answers lies in memory; so answers for lesser numbers. -/
import Derived.Test.YtdjldidfnddpmaaGreatDoorStX
namespace Go.Proofs.YtdjldidfnddpmaaGreatDoor
open Go.RowKit Go.Maps
/-- a bound method asks q of the elements of a list, and keeps an invariant of the world -/
def AskB (I : World → Prop) (g : Nat) (pre : Value) (q : Int → Bool) (l : List Int) : Prop := ∀ W, I W → ∀ x ∈ l, Calls Tryz.prog g (#[pre] ++ #[.int .i64 x]) W (RetI I (.bool (q x)))
set_option maxHeartbeats 1000000 in
theorem idx_intsB (I : World → Prop) (g : Nat) (pre : Value) (eg : ∀ args w, (callFunc g args).run Tryz.prog w = .ok (.enter g args) w) (q : Int → Bool) (l : List Int) (v : Value) (w : World) (hv : ∀ W, I W → IntsIn W.cell? v l) (hI0 : I w) (H : AskB I g pre q l) :
    Calls Tryz.prog 34 #[v, .func (.func g) #[pre] #[]] w (RetI I (.int .i64 (idxF q l))) := by
  obtain ⟨a, c, rfl, hlc, hcm, -⟩ := id (hv w hI0)
  have hlI : (l.length : Int) ≤ 9223372036854775807 := by omega
  have hI := hide hI0
  have HV := hide hv
  have H' := hide H
  clear H
  have H := H'
  clear hv hlc hcm hI0
  go_enter Tryz.func34, Tryz.ntmps34
  go_wp2
  go_loopw [8] (fun i wr => ∃ (k : Nat), k ≤ l.length ∧ i = .int .i64 k ∧ Hid ((l.take k).any q = false) ∧ Hid (I wr)) (fun i _ => l.length - (intOf i).toNat)
  case atStart => exact ⟨0, by omega, rfl, rfl, hI⟩
  case round =>
    obtain ⟨k, hk, rfl, HA, hIr⟩ := hrel
    by_cases hlt : k < l.length
    · have HK1 := hide hlt
      obtain ⟨a', n', e', -, -, hc⟩ := HV.out wr hIr.out
      cases e'
      obtain ⟨b, o, rfl, hck⟩ := hc k hlt
      have HT := hide (any_take_succ (d := 0) (p := q) hlt HA.out)
      have HN := hide (idxF_found (d := 0) q l k hlt HA.out)
      have hm := getD_mem l k (d := 0) hlt
      generalize l.getD k 0 = x at hck HT HN hm
      have c0 := hck
      have HC := hide (H.out wr hIr.out x hm)
      clear hc hck hm
      cases hx : q x
      · rw [hx] at HC
        have HT' := hide (HT.out hx)
        clear hx
        go_wp2_with fail
        refine HC.out.mono ?_
        rintro e w' ⟨rfl, hI''⟩
        have hI' := hide hI''
        clear hI''
        go_wp2_with fail
        go_roundw
        case rel => exact ⟨k + 1, by have := HK1.out; omega, by go_num, HT', hI'⟩
        case measure => have := HK1.out; simp [intOf]; omega
      · rw [hx] at HC
        have HN' := hide (HN.out hx)
        clear hx
        go_wp2_with fail
        refine HC.out.mono ?_
        rintro e w' ⟨rfl, hI''⟩
        have hI' := hide hI''
        clear hI''
        go_wp2_with fail
        go_ret
        exact ⟨ret_int HN'.out.symm, hI'.out⟩
    · go_wp2
      go_ret
      exact ⟨ret_int (idxF_none _ l (any_take_end (by omega) HA.out)).symm, hIr.out⟩
set_option maxHeartbeats 1000000 in
theorem has_intsB (I : World → Prop) (g : Nat) (pre : Value) (eg : ∀ args w, (callFunc g args).run Tryz.prog w = .ok (.enter g args) w) (q : Int → Bool) (l : List Int) (v : Value) (w : World) (hv : ∀ W, I W → IntsIn W.cell? v l) (hI0 : I w) (H : AskB I g pre q l) :
    Calls Tryz.prog 61 #[v, .func (.func g) #[pre] #[]] w (RetI I (.bool (l.any q))) := by
  have HF := hide (idxF_any q l)
  have HH := hide (idx_intsB I g pre eg q l v w hv hI0 H)
  clear H hI0
  go_enter Tryz.func61, Tryz.ntmps61
  go_wp2_with fail
  refine HH.out.mono ?_
  rintro e w' ⟨rfl, hI''⟩
  have hI' := hide hI''
  clear hI''
  go_wp2_with fail
  go_ret
  exact ⟨ret_bool HF.out, hI'.out⟩

/-- so answers for numbers below x -/
def SoAt (J M : Nat) (cv rv fv Fv Cv : Value) (c : CodeD) (F C : List Nat) (x : Int) : Prop :=
  ∀ y, 0 ≤ y → y < x → ∀ w ks, JudgeAt w J M cv rv fv Fv Cv c F C ks → Calls Tryz.prog 26 #[.pointer (some ⟨J, 0, none⟩), .int .i64 y] w (SoQ J M cv rv fv Fv Cv c F C ks y w)
/-- what find keeps while it asks -/
def KeptJ (w0 : World) (J M : Nat) (cv rv fv Fv Cv : Value) (c : CodeD) (F C : List Nat) (ks : List Int) (x : Int) (W : World) : Prop :=
  w0.grownBy W (some M) ∧ ∃ ks', JudgeAt W J M cv rv fv Fv Cv c F C ks' ∧ (∀ k ∈ ks, k ∈ ks') ∧ ∀ k ∈ ks', k ∈ ks ∨ k < x
theorem KeptJ.next {w0 W W' : World} {J M : Nat} {cv rv fv Fv Cv : Value} {c : CodeD} {F C : List Nat} {ks ks2 : List Int} {x y : Int} {e : Ending} (h : w0.grownBy W (some M)) (h1 : ∀ k ∈ ks, k ∈ ks2) (h2 : ∀ k ∈ ks2, k ∈ ks ∨ k < x) (hy : y < x) (hq : SoQ J M cv rv fv Fv Cv c F C ks2 y W e W') : e = .returned (.bool (findN c F C y.toNat).holds) ∧ KeptJ w0 J M cv rv fv Fv Cv c F C ks x W' := by
  obtain ⟨rfl, hg, ks3, hJ, h3, -, h4⟩ := hq
  exact ⟨rfl, grown2 h hg, ks3, hJ, fun k hk => h3 k (h1 k hk), fun k hk => by
    rcases h4 k hk with h5 | h5
    · exact h2 k h5
    · exact .inr (by omega)⟩
theorem KeptJ.later {w0 W W' : World} {J M : Nat} {cv rv fv Fv Cv : Value} {c : CodeD} {F C : List Nat} {ks : List Int} {x : Int} (h : KeptJ w0 J M cv rv fv Fv Cv c F C ks x W) (hb : Below W.heap.size W W') : KeptJ w0 J M cv rv fv Fv Cv c F C ks x W' := by
  obtain ⟨hg, ks2, hJ, h1, h2⟩ := h
  exact ⟨grown2 hg (grownS hb M), ks2, hJ.later hb, h1, h2⟩
/-- the bound method so -/
theorem has_so (w0 : World) (J M : Nat) (cv rv fv Fv Cv : Value) (c : CodeD) (F C : List Nat) (ks : List Int) (x : Int) (hS : SoAt J M cv rv fv Fv Cv c F C x) (l : List Int) (hl : ∀ y ∈ l, 0 ≤ y ∧ y < x) (v : Value) (w : World) (hv : ∀ W, KeptJ w0 J M cv rv fv Fv Cv c F C ks x W → IntsIn W.cell? v l) (hw : KeptJ w0 J M cv rv fv Fv Cv c F C ks x w) :
    Calls Tryz.prog 61 #[v, .func (.func 26) #[.pointer (some ⟨J, 0, none⟩)] #[]] w (RetI (KeptJ w0 J M cv rv fv Fv Cv c F C ks x) (.bool (l.any (soN c F C)))) :=
  has_intsB _ 26 (.pointer (some ⟨J, 0, none⟩)) (Go.Proofs.enters_of Tryz.func26 (by kernel_rfl) rfl) (soN c F C) l v w hv hw fun W ⟨hg, ks2, hJ, h1, h2⟩ y hy =>
    (hS y (hl y hy).1 (hl y hy).2 W ks2 hJ).mono fun e W' hq => KeptJ.next hg h1 h2 (hl y hy).2 hq
end Go.Proofs.YtdjldidfnddpmaaGreatDoor
