/- Walks of slices.Clone, cmp.Less and slices.BinarySearch at integers. Conditions: how the arguments lie in memory; sizes; that the list is strictly ascending. -/
import Derived.Test.YtppfdjjhloaopaaBlk
import Derived.Test.YtppfdjjhloaopaaLists
import Derived.Test.YtppfdjjhloaopaaPmodC
import Derived.WalkSpells
namespace Go.Proofs.Ytppfdjjhloaopaa
open Go.RowKit

theorem ints_news {w : World} {ad : Addr} {m n : Nat} {l : List Int} (h : IntsAt w (.slice (some ad) m n) l) : m = l.length ∧ ∀ j u, (l.map (Value.int .i64))[j]? = some u → w.cell? (ad.add j) = some u := by
  obtain ⟨a, n', e, h1, h2, h3⟩ := h
  cases e
  refine ⟨rfl, fun j u hj => ?_⟩
  have hjl : j < l.length := by have := (List.getElem?_eq_some_iff.1 hj).1; simpa using this
  obtain ⟨b, o, e, hc⟩ := h3 j hjl
  cases e
  rw [List.getElem?_map, List.getElem?_eq_getElem hjl] at hj
  simp at hj
  rw [List.getD_eq_getElem?_getD, List.getElem?_eq_getElem hjl] at hc
  by_cases h0 : j = 0
  · subst h0; simp [Addr.add]; simpa [hj] using hc
  · simp [Addr.add, h0]; simpa [hj] using hc
def CloneQ (l : List Int) (w : World) (e : Ending) (w' : World) : Prop := ∃ v, e = .returned v ∧ IntsIn (frmY w.heap.size 3 w') v l ∧ Below w.heap.size w w'
set_option maxHeartbeats 1000000 in
theorem clone_any (l : List Int) (v : Value) (w : World) (hv : IntsAt w v l) (hl : l.length < 1000000) :
    Calls Try.prog 54 #[v] w (CloneQ l w) := by
  have hnl := fun (w : World) (a : Option Addr) (n c n' c' : Nat) => Lib.run_eql_slice_nil (P := Try.prog) w 25 3 a n c n' c' Try.underlying25
  obtain ⟨i0, hi, hz0, hz1, hz2⟩ := info_parts infoInt
  obtain ⟨a, n, rfl, h1, h2, h3⟩ := id hv
  cases a with
  | none =>
    have hl0 : l = [] := by
      cases l with
      | nil => rfl
      | cons x t => obtain ⟨b, o, e, -⟩ := h3 0 (by simp); cases e
    have HL := hide hl0
    clear hl0
    go_enter Try.func54, Try.ntmps54
    go_wp2
    go_ret
    exact ⟨_, rfl, by rw [HL.out]; exact IntsIn.nil _, Below.refl _ _⟩
  | some ad =>
    obtain ⟨-, hnews⟩ := ints_news hv
    have HN := hide hnews
    have hone : ∀ u ∈ l.map (Value.int .i64), u.oneCell' = true := fun u hu => by obtain ⟨x, -, rfl⟩ := List.mem_map.1 hu; rfl
    have HO := hide hone
    have h30 := h3
    clear hnews hone h3 h30
    go_enter Try.func54, Try.ntmps54
    go_wp2_with (at_builtin; refine wpList_append_own _ rfl _ _ 25 rfl w.heap.size 3 i0 (.int .i64 0) 1 8 Try.underlying25 hi hz0 hz1 hz2 rfl (by decide) _ 0 [] rfl (World.ownsRow_lit w #[] 0 (Nat.le_refl _) (by unfold maxLen; omega) rfl) ad l.length n (l.map (Value.int .i64)) rfl (by simp) (fun j u hj => keep (bal w _) (HN.out j u hj)) HO.out (by unfold maxLen; omega) (by omega) (by simp) ?_; intro v' w' hown hg _)
    go_ret
    refine ⟨_, rfl, OwnI.intsY (B := w.heap.size) (by simpa [OwnI] using hown) (Nat.le_refl _), ?_⟩
    exact ((Below.refl _ w).alloc (Nat.le_refl _) _).grown hg (by simp) (fun k hk => by cases hk; exact Nat.le_refl _)
def ltB (x y : Int) : Bool := decide (x < y)
theorem isnan_any (x : Int) (w : World) : Calls Try.prog 90 #[.int .i64 x] w (Ret (.bool false) w) := by
  have e : (x != x) = false := by simp
  go_enter Try.func90, Try.ntmps90
  go_wp2
  go_ret
  exact ⟨rfl, Below.refl _ _⟩
theorem isnan2_any (x : Int) (w : World) : Calls Try.prog 80 #[.int .i64 x] w (Ret (.bool false) w) := by
  have e : (x != x) = false := by simp
  go_enter Try.func80, Try.ntmps80
  go_wp2
  go_ret
  exact ⟨rfl, Below.refl _ _⟩
set_option maxHeartbeats 400000 in
theorem less_any (x y : Int) (w : World) : Calls Try.prog 79 #[.int .i64 x, .int .i64 y] w (Ret (.bool (ltB x y)) w) := by
  have HF : Hid (ltB x y = decide (x < y)) := hide rfl
  go_enter Try.func79, Try.ntmps79
  go_wp2_with (go_at_call 90; refine (isnan_any _ _).mono ?_; rintro e w1 ⟨rfl, hb1⟩)
  go_ret
  exact ⟨ret_bool HF.out.symm, hb1⟩
def Bin2 (l : List Int) (x : Int) (w : World) (e : Ending) (w' : World) : Prop := ∃ n : Int, e = .returned (.tuple #[.int .i64 n, .bool (memB l x)]) ∧ Below w.heap.size w w'
theorem bin2_of {l : List Int} {x n : Int} {b : Bool} {w w' : World} (h : memB l x = b) (hb : Below w.heap.size w w') : Bin2 l x w (.returned (.tuple #[.int .i64 n, .bool b])) w' := ⟨n, by rw [h], hb⟩
theorem memB_yes {l : List Int} {x : Int} {k : Nat} (hk : k < l.length) (h : l.getD k 0 = x) : memB l x = true :=
  List.any_eq_true.2 ⟨_, getD_mem l k (d := 0) hk, by simpa using h⟩
theorem memB_no {l : List Int} {x : Int} (h : ∀ k, k < l.length → l.getD k 0 ≠ x) : memB l x = false := by
  rw [← Bool.not_eq_true]; intro hm
  obtain ⟨y, hy, e⟩ := List.any_eq_true.1 hm
  obtain ⟨k, hk, rfl⟩ := List.getElem_of_mem hy
  have := h k hk
  rw [List.getD_eq_getElem?_getD, List.getElem?_eq_getElem hk] at this
  simp at this e
  exact this e
set_option maxHeartbeats 1000000 in
theorem bin_any (l : List Int) (v : Value) (x : Int) (w : World) (hv : IntsAt w v l) (hl : l.length < 1000000) (hs : AscL l) :
    Calls Try.prog 55 #[v, .int .i64 x] w (Bin2 l x w) := by
  obtain ⟨a, n, rfl, h1, h2, hc⟩ := id hv
  go_enter Try.func55, Try.ntmps55
  go_wp2
  go_loopw [7, 8] (fun i j wr => ∃ (i' j' : Nat), i' ≤ j' ∧ j' ≤ l.length ∧ i = .int .i64 i' ∧ j = .int .i64 j' ∧ Hid (∀ k, k < i' → l.getD k 0 < x) ∧ Hid (∀ k, j' ≤ k → k < l.length → x ≤ l.getD k 0) ∧ Below w.heap.size w wr) (fun i j _ => (intOf j).toNat - (intOf i).toNat)
  case atStart => exact ⟨0, l.length, by omega, by omega, rfl, rfl, fun k hk => by omega, fun k h1 h2 => by omega, Below.refl _ _⟩
  case round =>
    obtain ⟨i, j, hij, hjl, rfl, rfl, HL, HR, hbr⟩ := hrel
    by_cases hlt : i < j
    · obtain ⟨b, o, rfl, hck⟩ := hc ((i + j) / 2) (by omega)
      have ck := keep hbr hck
      have HA := hide (hs ((i + j) / 2))
      have HB := hide (fun k (h : k < (i + j) / 2) => hs k ((i + j) / 2) h (by omega))
      generalize hy : l.getD ((i + j) / 2) 0 = y at ck HA HB hck
      have HYE := hide hy
      clear hy
      have HY : Hid (ltB y x = decide (y < x)) := hide rfl
      clear hs hc hck
      cases hb : ltB y x
      · have HX : Hid (x ≤ y) := hide (by have := HY.out; rw [hb] at this; have := this.symm; simp at this; exact this)
        go_wp2_with (go_at_call 79; refine (less_any _ _ _).mono ?_; rw [hb]; rintro e w1 ⟨rfl, hb1⟩)
        go_roundw
        case rel => exact ⟨i, (i + j) / 2, by omega, by omega, rfl, i64_eq (by omega), HL, fun k h1 h2 => by
          have h3 := HX.out
          rcases Nat.lt_or_ge ((i + j) / 2) k with h4 | h4
          · have := HA.out k h4 h2; omega
          · obtain rfl : k = (i + j) / 2 := by omega
            rw [HYE.out]; exact h3, below2 hbr hb1⟩
        case measure => simp [intOf]; omega
      · have HX : Hid (y < x) := hide (by have := HY.out; rw [hb] at this; have := this.symm; simp at this; exact this)
        go_wp2_with (go_at_call 79; refine (less_any _ _ _).mono ?_; rw [hb]; rintro e w1 ⟨rfl, hb1⟩)
        go_roundw
        case rel => exact ⟨(i + j) / 2 + 1, j, by omega, by omega, i64_eq (by omega), rfl, fun k hk => by
          have h3 := HX.out
          rcases Nat.lt_or_ge k ((i + j) / 2) with h4 | h4
          · have := HB.out k h4; omega
          · obtain rfl : k = (i + j) / 2 := by omega
            rw [HYE.out]; exact h3, HR, below2 hbr hb1⟩
        case measure => simp [intOf]; omega
    · obtain rfl : i = j := by omega
      by_cases hn : i < l.length
      · obtain ⟨b, o, rfl, hck⟩ := hc i hn
        have ck := keep hbr hck
        have HM1 := hide (memB_yes (x := x) hn)
        have HM2 : Hid (l.getD i 0 ≠ x → memB l x = false) := hide fun h => memB_no fun k hk => by
          rcases Nat.lt_or_ge k i with h1 | h1
          · have := HL.out k h1; omega
          · rcases Nat.lt_or_ge i k with h2 | h2
            · have := hs i k h2 hk; have := HR.out i (Nat.le_refl _) hn; omega
            · obtain rfl : k = i := by omega
              exact h
        generalize l.getD i 0 = y at ck HM1 HM2 hck
        clear hs hc hck
        by_cases hyx : y = x
        · have e1 : (y == x) = true := by simpa using hyx
          have HYX := hide hyx
          clear hyx
          go_wp2
          go_ret2
          exact bin2_of (HM1.out HYX.out) hbr
        · have e1 : (y == x) = false := by simpa using hyx
          have HYX := hide hyx
          clear hyx
          go_wp2_with (go_at_call 80; refine (isnan2_any _ _).mono ?_; rintro e w1 ⟨rfl, hb1⟩)
          go_ret2
          exact bin2_of (HM2.out HYX.out) (below2 hbr hb1)
      · have HM : Hid (memB l x = false) := hide (memB_no fun k hk => by have := HL.out k (by omega); omega)
        clear hs hc
        go_wp2
        go_ret2
        exact bin2_of HM.out hbr
end Go.Proofs.Ytppfdjjhloaopaa
