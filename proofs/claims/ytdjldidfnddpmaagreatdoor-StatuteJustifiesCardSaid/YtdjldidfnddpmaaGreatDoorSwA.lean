/- Walks of the small functions of the laws of chapter 31 and of its reference. Conditions: how the arguments lie in memory; that integers are of 64 bits. -/
import Derived.Test.YtdjldidfnddpmaaGreatDoorSvB
import Derived.Test.YtdjldidfnddpmaaGreatDoorSpA
namespace Go.Proofs.YtdjldidfnddpmaaGreatDoor
open Go.RowKit
def absK (c : Int) : Int := if c < 0 then -(c + 1) else c
theorem absK_nonneg (c : Int) : 0 ≤ absK c := by unfold absK; split <;> omega
set_option maxHeartbeats 400000 in
theorem pickr_any (c n : Int) (w : World) (h1 : -9223372036854775808 ≤ c) (h2 : c ≤ 9223372036854775807) (hn : 0 < n) (hn2 : n ≤ 9223372036854775807) :
    Calls Tryz.prog 19 #[.int .i64 c, .int .i64 n] w (fun e w' => e = .returned (.int .i64 (pkF c n)) ∧ w' = w) := by
  have hne : n ≠ 0 := by omega
  have HF : Hid (pkF c n = absK c % n) := hide rfl
  have HP := hide ((pkF_bd hn c).1)
  have HL := hide ((pkF_bd hn c).2)
  by_cases hc : c < 0
  · have HA : Hid (absK c = -(c + 1)) := hide (by unfold absK; rw [if_pos hc])
    have HT : Hid ((-(c + 1)).tmod n = pkF c n) := hide (by rw [HF.out, HA.out]; exact Int.tmod_eq_emod_of_nonneg (by omega))
    go_enter Tryz.func19, Tryz.ntmps19
    go_wp2
    go_ret
    refine ⟨ret_int ?_, rfl⟩
    rw [← Int.neg_tmod]; exact HT.out
  · have HA : Hid (absK c = c) := hide (by unfold absK; rw [if_neg hc])
    have HT : Hid (c.tmod n = pkF c n) := hide (by rw [HF.out, HA.out]; exact Int.tmod_eq_emod_of_nonneg (by omega))
    go_enter Tryz.func19, Tryz.ntmps19
    go_wp2
    go_ret
    refine ⟨ret_int ?_, rfl⟩
    rw [HF.out, HA.out]
def intsB (a b : List Int) : Bool := decide (a = b)
theorem intsB_no {a b : List Int} {k : Nat} (h : a.getD k 0 ≠ b.getD k 0) : intsB a b = false := by
  unfold intsB; simp; rintro rfl; exact h rfl
theorem intsB_len {a b : List Int} (h : a.length ≠ b.length) : intsB a b = false := by
  unfold intsB; simp; rintro rfl; exact h rfl
theorem intsB_yes {a b : List Int} (hl : a.length = b.length) (h : ∀ k, k < a.length → a.getD k 0 = b.getD k 0) : intsB a b = true := by
  unfold intsB; simp
  refine List.ext_getElem hl fun i h1 h2 => ?_
  have := h i h1
  rwa [List.getD_eq_getElem?_getD, List.getD_eq_getElem?_getD, List.getElem?_eq_getElem h1, List.getElem?_eq_getElem h2] at this
set_option maxHeartbeats 400000 in
theorem ints_any (x y : List Int) (xv yv : Value) (w : World) (hx : IntsAt w xv x) (hy : IntsAt w yv y) :
    Calls Tryz.prog 16 #[xv, yv] w (Ret (.bool (intsB x y)) w) := by
  obtain ⟨xa, xc, rfl, hx1, hx2, hxc⟩ := hx
  obtain ⟨ya, yc, rfl, hy1, hy2, hyc⟩ := hy
  by_cases hl : x.length = y.length
  · have hl1 : (x.length : Int) = (y.length : Int) := by omega
    have HL := hide hl
    have HY := hide (intsB_yes hl)
    rw [← hl]
    clear hl hl1
    go_enter Tryz.func16, Tryz.ntmps16
    go_wp2
    go_loopw [5] (fun i wr => ∃ (k : Nat), k ≤ x.length ∧ i = .int .i64 k ∧ Hid (∀ j, j < k → x.getD j 0 = y.getD j 0) ∧ Below w.heap.size w wr) (fun i _ => x.length - (intOf i).toNat)
    case atStart => exact ⟨0, by omega, rfl, fun j hj => by omega, Below.refl _ _⟩
    case round =>
      obtain ⟨k, hk, rfl, HA, hbr⟩ := hrel
      by_cases hlt : k < x.length
      · obtain ⟨b, o, rfl, hck⟩ := hxc k hlt
        obtain ⟨b', o', rfl, hck'⟩ := hyc k (by have := HL.out; omega)
        have HN := hide (intsB_no (a := x) (b := y) (k := k))
        have HS : Hid (x.getD k 0 = y.getD k 0 → ∀ j, j < k + 1 → x.getD j 0 = y.getD j 0) := hide fun h j hj => by
          rcases Nat.lt_or_ge j k with h1 | h1
          · exact HA.out j h1
          · obtain rfl : j = k := by omega
            exact h
        generalize x.getD k 0 = s at hck HN HS
        generalize y.getD k 0 = t at hck' HN HS
        have c1 := bwc (keep hbr hck)
        have c2 := bwc (keep hbr hck')
        clear hxc hyc hck hck'
        go_wp2
        refine wp_region_bw (by kernel_rfl) (by kernel_rfl) ?_
        repeat (go_big_quiet_step (fail))
        refine wpQuiet_nil ?_
        rintro _ ⟨i, rfl⟩
        by_cases hst : s = t
        · have HST := hide hst
          subst hst
          go_wp2
          go_roundw
          case rel => exact ⟨k + 1, by omega, by go_num, HS.out rfl, bwb i hbr hbr.size⟩
          case measure => simp [intOf]; omega
        · have HST := hide (HN.out hst)
          go_wp2
          go_ret
          exact ⟨ret_bool HST.out.symm, bwb i hbr hbr.size⟩
      · obtain rfl : k = x.length := by omega
        go_wp2
        go_ret
        exact ⟨ret_bool (HY.out HA.out).symm, hbr⟩
  · have HN := hide (intsB_len hl)
    have hl1 : ¬ (x.length : Int) = (y.length : Int) := by omega
    go_enter Tryz.func16, Tryz.ntmps16
    go_wp2
    go_ret
    exact ⟨ret_bool HN.out.symm, Below.refl _ _⟩
set_option maxRecDepth 20000 in
set_option maxHeartbeats 1000000 in
theorem same_any (l : List FindD) (v u : Value) (w : World) (hv : RecIn findC find0 4 w.cell? v l) (hu : RecIn findC find0 4 w.cell? u l) : Calls Tryz.prog 14 #[v, u] w (Ret (.bool true) w) := by
  obtain ⟨a, c, rfl, hl1, hl2, hc⟩ := hv
  obtain ⟨a', c', rfl, -, -, hc'⟩ := hu
  have HC := hide hc
  have HC' := hide hc'
  have hm : (l.length : Int) ≤ 9223372036854775807 := by omega
  have hle : ((l.length : Int) != (l.length : Int)) = false := by simp
  clear hc hc'
  go_enter Tryz.func14, Tryz.ntmps14
  go_wp2_with fail
  go_loopw [5] (fun i wr => ∃ k : Nat, k ≤ l.length ∧ i = .int .i64 k ∧ Below w.heap.size w wr) (fun i _ => l.length - (intOf i).toNat)
  case atStart => exact ⟨0, by omega, rfl, Below.refl _ _⟩
  case round =>
    obtain ⟨k, hk, rfl, hbr⟩ := hrel
    by_cases hlt : k < l.length
    · obtain ⟨b1, o1, e1, h1⟩ := HC.out k hlt
      obtain ⟨b2, o2, e2, h2⟩ := HC'.out k hlt
      subst e1 e2
      generalize l.getD k find0 = x at h1 h2
      have hkl : decide (k < l.length) = true := by simpa using hlt
      obtain ⟨xs, xh, xf, xc⟩ := x
      have p0 : ∀ i : Bw wr.heap.size wr, i.W.cell? ⟨b1, o1 + k * 4, none⟩ = some (.int .i64 xs) := bwc (keep hbr (h1 0 _ rfl))
      have p1 : ∀ i : Bw wr.heap.size wr, i.W.cell? ⟨b1, o1 + k * 4 + 1, none⟩ = some (.bool xh) := bwc (keep hbr (h1 1 _ rfl))
      have p2 : ∀ i : Bw wr.heap.size wr, i.W.cell? ⟨b1, o1 + k * 4 + 2, none⟩ = some (.int .i64 xf) := bwc (keep hbr (h1 2 _ rfl))
      have p3 : ∀ i : Bw wr.heap.size wr, i.W.cell? ⟨b1, o1 + k * 4 + 3, none⟩ = some (.int .i64 xc) := bwc (keep hbr (h1 3 _ rfl))
      have q0 : ∀ i : Bw wr.heap.size wr, i.W.cell? ⟨b2, o2 + k * 4, none⟩ = some (.int .i64 xs) := bwc (keep hbr (h2 0 _ rfl))
      have q1 : ∀ i : Bw wr.heap.size wr, i.W.cell? ⟨b2, o2 + k * 4 + 1, none⟩ = some (.bool xh) := bwc (keep hbr (h2 1 _ rfl))
      have q2 : ∀ i : Bw wr.heap.size wr, i.W.cell? ⟨b2, o2 + k * 4 + 2, none⟩ = some (.int .i64 xf) := bwc (keep hbr (h2 2 _ rfl))
      have q3 : ∀ i : Bw wr.heap.size wr, i.W.cell? ⟨b2, o2 + k * 4 + 3, none⟩ = some (.int .i64 xc) := bwc (keep hbr (h2 3 _ rfl))
      have EB : (xh == xh) = true := by simp
      clear h1 h2
      go_wp2_with fail
      refine wp_region_bw (by kernel_rfl) (by kernel_rfl) ?_
      repeat (go_big_quiet_step (fail))
      refine wpQuiet_nil ?_
      rintro _ ⟨i, rfl⟩
      have hbi := below2 hbr i.h
      go_wp2_with fail
      go_roundw
      case rel => exact ⟨k + 1, by omega, by go_num, hbi⟩
      case measure => simp [intOf]; omega
    · obtain rfl : k = l.length := by omega
      go_wp2_with fail
      go_ret
      exact ⟨rfl, hbr⟩
end Go.Proofs.YtdjldidfnddpmaaGreatDoor
