/- Register: walks of slices.BinarySearchFunc and slices.IndexFunc at points, and of the closures of Judge. Conditions: how the arguments and the global tables lie in memory; sizes. -/
import Derived.Test.YtoofkahklboojaaDoorRkJ
namespace Go.Proofs.YtoofkahklboojaaDoor
open Go.RowKit

theorem isnan_any (x : Int) (w : World) : Calls Tryd.prog 67 #[iV x] w (Ret (.bool false) w) := by
  have e : (x != x) = false := by simp
  go_enter Tryd.func67, Tryd.ntmps67
  go_wp2
  go_ret
  exact ⟨rfl, Below.refl _ _⟩
def cmpF (x y : Int) : Int := if x < y then -1 else if y < x then 1 else 0
set_option maxRecDepth 20000 in
set_option maxHeartbeats 1000000 in
theorem compare_any (x y : Int) (w : World) : Calls Tryd.prog 53 #[iV x, iV y] w (Ret (iV (cmpF x y)) w) := by
  by_cases h1 : x < y
  · have HF : Hid (cmpF x y = -1) := hide (by unfold cmpF; rw [if_pos h1])
    have h2 : decide (x < y) = true := by simpa using h1
    generalize cmpF x y = R at *
    clear h1
    go_enter Tryd.func53, Tryd.ntmps53
    go_wp2_with fail
    refine (isnan_any _ _).mono ?_
    rintro e w1 ⟨rfl, hb1⟩
    go_wp2_with fail
    refine (isnan_any _ _).mono ?_
    rintro e w2 ⟨rfl, hb2⟩
    go_wp2_with fail
    go_ret
    exact ⟨ret_int HF.out.symm, below2 hb1 hb2⟩
  · have h2 : decide (x < y) = false := by simpa using h1
    by_cases h3 : y < x
    · have HF : Hid (cmpF x y = 1) := hide (by unfold cmpF; rw [if_neg h1, if_pos h3])
      have h4 : decide (y < x) = true := by simpa using h3
      generalize cmpF x y = R at *
      clear h1 h3
      go_enter Tryd.func53, Tryd.ntmps53
      go_wp2_with fail
      refine (isnan_any _ _).mono ?_
      rintro e w1 ⟨rfl, hb1⟩
      go_wp2_with fail
      refine (isnan_any _ _).mono ?_
      rintro e w2 ⟨rfl, hb2⟩
      go_wp2_with fail
      go_ret
      exact ⟨ret_int HF.out.symm, below2 hb1 hb2⟩
    · have HF : Hid (cmpF x y = 0) := hide (by unfold cmpF; rw [if_neg h1, if_neg h3])
      have h4 : decide (y < x) = false := by simpa using h3
      generalize cmpF x y = R at *
      clear h1 h3
      go_enter Tryd.func53, Tryd.ntmps53
      go_wp2_with fail
      refine (isnan_any _ _).mono ?_
      rintro e w1 ⟨rfl, hb1⟩
      go_wp2_with fail
      refine (isnan_any _ _).mono ?_
      rintro e w2 ⟨rfl, hb2⟩
      go_wp2_with fail
      go_ret
      exact ⟨ret_int HF.out.symm, below2 hb1 hb2⟩
set_option maxRecDepth 20000 in
set_option maxHeartbeats 1000000 in
theorem judge1_any (p : DotD) (z : Int) (w : World) : Calls Tryd.prog 52 #[dotV p, iV z] w (Ret (iV (cmpF p.id z)) w) := by
  obtain ⟨pi, px, py, pt⟩ := p
  dsimp only
  go_enter Tryd.func52, Tryd.ntmps52
  go_wp2_with fail
  have hb := bal w (.cells #[iV pi, iV px, iV py, iV pt] 53)
  refine (compare_any _ _ _).mono ?_
  rintro e w1 ⟨rfl, hb1⟩
  go_wp2_with fail
  go_ret
  exact ⟨rfl, below2 hb hb1⟩
def AscD (l : List DotD) : Prop := ∀ i j, i < j → j < l.length → (l.getD i dot0).id < (l.getD j dot0).id
def BinD (l : List DotD) (z : Int) (w : World) (e : Ending) (w' : World) : Prop :=
  ∃ (n : Nat) (b : Bool), e = .returned (.tuple #[iV n, .bool b]) ∧ n ≤ l.length ∧ (b = true → n < l.length ∧ (l.getD n dot0).id = z) ∧ (AscD l → b = false → ∀ k, k < l.length → (l.getD k dot0).id ≠ z) ∧ Below w.heap.size w w'
set_option maxRecDepth 20000 in
set_option maxHeartbeats 1000000 in
theorem bind_any (l : List DotD) (v : Value) (z : Int) (w : World) (hv : DotsAt w v l) (hl : l.length < 1000000) :
    Calls Tryd.prog 51 #[v, iV z, .func (.func 52) #[] #[]] w (BinD l z w) := by
  obtain ⟨a, n, rfl, h1, h2, hc⟩ := id hv
  have HC := hide hc
  clear hc hv
  go_enter Tryd.func51, Tryd.ntmps51
  go_wp2
  go_loopw [9, 10] (fun i j wr => ∃ (i' j' : Nat), i' ≤ j' ∧ j' ≤ l.length ∧ i = .int .i64 i' ∧ j = .int .i64 j' ∧ Hid (AscD l → ∀ k, k < i' → (l.getD k dot0).id < z) ∧ Hid (AscD l → ∀ k, j' ≤ k → k < l.length → z ≤ (l.getD k dot0).id) ∧ Below w.heap.size w wr) (fun i j _ => (intOf j).toNat - (intOf i).toNat)
  case atStart => exact ⟨0, l.length, by omega, by omega, rfl, rfl, fun _ k hk => by omega, fun _ k h1 h2 => by omega, Below.refl _ _⟩
  case round =>
    obtain ⟨i, j, hij, hjl, rfl, rfl, HL, HR, hbr⟩ := hrel
    by_cases hlt : i < j
    · obtain ⟨bl, o, rfl, hck⟩ := HC.out ((i + j) / 2) (by omega)
      have HY := hide (show ∃ y, (l.getD ((i + j) / 2) dot0) = y from ⟨_, rfl⟩)
      generalize hy : l.getD ((i + j) / 2) dot0 = y at hck
      have HYE := hide hy
      clear hy HY
      obtain ⟨pi, px, py, pt⟩ := y
      have e0 : wr.cell? ⟨bl, o + (i + j) / 2 * 4, none⟩ = some (iV pi) := keep hbr (hck 0 _ rfl)
      have e1 : wr.cell? ⟨bl, o + (i + j) / 2 * 4 + 1, none⟩ = some (iV px) := keep hbr (hck 1 _ rfl)
      have e2 : wr.cell? ⟨bl, o + (i + j) / 2 * 4 + 2, none⟩ = some (iV py) := keep hbr (hck 2 _ rfl)
      have e3 : wr.cell? ⟨bl, o + (i + j) / 2 * 4 + 3, none⟩ = some (iV pt) := keep hbr (hck 3 _ rfl)
      have HJ := hide (judge1_any ⟨pi, px, py, pt⟩ z wr)
      dsimp only at HJ
      have HCF : Hid (cmpF pi z = if pi < z then -1 else if z < pi then 1 else 0) := hide rfl
      clear hck
      cases hb : decide (cmpF pi z < 0)
      · have HX : Hid (z ≤ pi) := hide (by
          have h := HCF.out
          refine Decidable.byContradiction fun hn => ?_
          rw [if_pos (by omega)] at h; rw [h] at hb; simp at hb)
        generalize cmpF pi z = C at *
        go_wp2_with fail
        refine HJ.out.mono ?_
        rintro e w1 ⟨rfl, hb1⟩
        go_wp2_with fail
        go_roundw
        case rel => exact ⟨i, (i + j) / 2, by omega, by omega, rfl, i64_eq (by omega), HL, hide fun hA k h1 h2 => by
          have h3 := HX.out
          rcases Nat.lt_or_ge ((i + j) / 2) k with h4 | h4
          · have h5 := hA _ _ h4 h2
            rw [HYE.out] at h5
            dsimp only at h5; omega
          · obtain rfl : k = (i + j) / 2 := by omega
            rw [HYE.out]; exact h3, below2 hbr hb1⟩
        case measure => simp [intOf]; omega
      · have HX : Hid (pi < z) := hide (by
          have h := HCF.out
          refine Decidable.byContradiction fun hn => ?_
          rw [if_neg hn] at h; rw [h] at hb; simp at hb; split at hb <;> omega)
        generalize cmpF pi z = C at *
        go_wp2_with fail
        refine HJ.out.mono ?_
        rintro e w1 ⟨rfl, hb1⟩
        go_wp2_with fail
        go_roundw
        case rel => exact ⟨(i + j) / 2 + 1, j, by omega, by omega, i64_eq (by omega), rfl, hide fun hA k hk => by
          have h3 := HX.out
          rcases Nat.lt_or_ge k ((i + j) / 2) with h4 | h4
          · have h5 := hA _ _ h4 (by omega)
            rw [HYE.out] at h5
            dsimp only at h5; omega
          · obtain rfl : k = (i + j) / 2 := by omega
            rw [HYE.out]; exact h3, HR, below2 hbr hb1⟩
        case measure => simp [intOf]; omega
    · obtain rfl : i = j := by omega
      by_cases hn : i < l.length
      · obtain ⟨bl, o, rfl, hck⟩ := HC.out i hn
        have HM2 : Hid ((l.getD i dot0).id ≠ z → AscD l → ∀ k, k < l.length → (l.getD k dot0).id ≠ z) := hide fun h hA k hk => by
          rcases Nat.lt_or_ge k i with h1 | h1
          · have := HL.out hA k h1; omega
          · rcases Nat.lt_or_ge i k with h2 | h2
            · have := hA i k h2 hk; have := HR.out hA i (Nat.le_refl _) hn; omega
            · obtain rfl : k = i := by omega
              exact h
        obtain ⟨y, hy⟩ : ∃ y, l.getD i dot0 = y := ⟨_, rfl⟩
        rw [hy] at HM2 hck
        have HYE := hide hy
        clear hy
        obtain ⟨pi, px, py, pt⟩ := y
        have e0 : wr.cell? ⟨bl, o + i * 4, none⟩ = some (iV pi) := keep hbr (hck 0 _ rfl)
        have e1 : wr.cell? ⟨bl, o + i * 4 + 1, none⟩ = some (iV px) := keep hbr (hck 1 _ rfl)
        have e2 : wr.cell? ⟨bl, o + i * 4 + 2, none⟩ = some (iV py) := keep hbr (hck 2 _ rfl)
        have e3 : wr.cell? ⟨bl, o + i * 4 + 3, none⟩ = some (iV pt) := keep hbr (hck 3 _ rfl)
        have HJ := hide (judge1_any ⟨pi, px, py, pt⟩ z wr)
        dsimp only at HJ HM2
        have HCF : Hid (cmpF pi z = if pi < z then -1 else if z < pi then 1 else 0) := hide rfl
        have HN := hide hn
        clear hck
        cases hb : (cmpF pi z == 0)
        · have HX : Hid (pi ≠ z) := hide (by
            have h := HCF.out
            intro e
            rw [if_neg (by omega), if_neg (by omega)] at h; rw [h] at hb; simp at hb)
          generalize cmpF pi z = C at *
          go_wp2_with fail
          refine HJ.out.mono ?_
          rintro e w1 ⟨rfl, hb1⟩
          go_wp2_with fail
          go_ret2
          exact ⟨i, false, rfl, by omega, (fun h => by cases h), fun hA _ => HM2.out HX.out hA, below2 hbr hb1⟩
        · have HX : Hid (pi = z) := hide (by
            have h := HCF.out
            refine Decidable.byContradiction fun hn => ?_
            by_cases h3 : pi < z
            · rw [if_pos h3] at h; rw [h] at hb; simp at hb
            · rw [if_neg h3, if_pos (by omega)] at h; rw [h] at hb; simp at hb)
          generalize cmpF pi z = C at *
          go_wp2_with fail
          refine HJ.out.mono ?_
          rintro e w1 ⟨rfl, hb1⟩
          go_wp2_with fail
          go_ret2
          exact ⟨i, true, rfl, by omega, (fun _ => ⟨HN.out, by rw [HYE.out]; exact HX.out⟩), (fun _ h => by cases h), below2 hbr hb1⟩
      · have HM : Hid (AscD l → ∀ k, k < l.length → (l.getD k dot0).id ≠ z) := hide (fun hA k hk => by have := HL.out hA k (by omega); omega)
        go_wp2
        go_ret2
        exact ⟨i, false, rfl, by omega, (fun h => by cases h), fun hA _ => HM.out hA, hbr⟩
/-- what is asked of a function value that is handed points -/
def OnDots (g : Nat) (lb : Array Value) (q : DotD → Bool) (l : List DotD) (w : World) : Prop :=
  ∀ W, Below w.heap.size w W → ∀ p ∈ l, Calls Tryd.prog g (#[dotV p] ++ lb) W (Ret (.bool (q p)) W)
set_option maxRecDepth 20000 in
set_option maxHeartbeats 1000000 in
theorem idxdot_any (g : Nat) (lb : Array Value) (eg : ∀ args w, (callFunc g args).run Tryd.prog w = .ok (.enter g args) w) (q : DotD → Bool) (l : List DotD) (v : Value) (w : World) (hv : DotsAt w v l) (H : OnDots g lb q l w) :
    Calls Tryd.prog 55 #[v, .func (.func g) #[] lb] w (Ret (.int .i64 (idxF q l)) w) := by
  obtain ⟨a, c, rfl, hlc, hcm, hc⟩ := hv
  have HC := hide hc
  have HH := hide H
  clear hc H
  go_enter Tryd.func55, Tryd.ntmps55
  go_wp2
  go_loopw [8] (fun i wr => ∃ (k : Nat), k ≤ l.length ∧ i = .int .i64 k ∧ Hid ((l.take k).any q = false) ∧ Below w.heap.size w wr) (fun i _ => l.length - (intOf i).toNat)
  case atStart => exact ⟨0, by omega, rfl, rfl, Below.refl _ _⟩
  case round =>
    obtain ⟨k, hk, rfl, HA, hbr⟩ := hrel
    by_cases hlt : k < l.length
    · obtain ⟨bl, o, rfl, hck⟩ := HC.out k hlt
      have HT := hide (any_take_succ (d := dot0) (p := q) hlt HA.out)
      have HN := hide (idxF_found (d := dot0) q l k hlt HA.out)
      have HQ := hide (HH.out wr hbr (l.getD k dot0) (getD_mem l k hlt))
      generalize l.getD k dot0 = x at hck HT HN HQ
      obtain ⟨pi, px, py, pt⟩ := x
      have e0 : wr.cell? ⟨bl, o + k * 4, none⟩ = some (iV pi) := keep hbr (hck 0 _ rfl)
      have e1 : wr.cell? ⟨bl, o + k * 4 + 1, none⟩ = some (iV px) := keep hbr (hck 1 _ rfl)
      have e2 : wr.cell? ⟨bl, o + k * 4 + 2, none⟩ = some (iV py) := keep hbr (hck 2 _ rfl)
      have e3 : wr.cell? ⟨bl, o + k * 4 + 3, none⟩ = some (iV pt) := keep hbr (hck 3 _ rfl)
      clear hck
      cases hx : q ⟨pi, px, py, pt⟩
      · rw [hx] at HQ
        go_wp2_with (go_at_fn g; refine HQ.out.mono ?_; rintro e w' ⟨rfl, hb⟩)
        go_roundw
        case rel => exact ⟨k + 1, by omega, by go_num, HT.out hx, below2 hbr hb⟩
        case measure => simp [intOf]; omega
      · rw [hx] at HQ
        go_wp2_with (go_at_fn g; refine HQ.out.mono ?_; rintro e w' ⟨rfl, hb⟩)
        go_ret
        exact ⟨ret_int (HN.out hx).symm, below2 hbr hb⟩
    · go_wp2
      go_ret
      exact ⟨ret_int (idxF_none _ l (any_take_end (by omega) HA.out)).symm, hbr⟩
set_option maxRecDepth 20000 in
set_option maxHeartbeats 1000000 in
theorem judge2_any (p q : DotD) (k : Nat) (dx dy : Int) (n : Nat) (l : List DotD) (v : Value) (O Bb At : Nat) (w : World) (hk : k ≤ 3) (hp : dotOk p = true) (hq : dotOk q = true) (hG : Glob w) (hv : DotsAt w v l) (hn : n < l.length) (hnq : l.getD n dot0 = q)
    (hO1 : w.cell? ⟨O, 1, none⟩ = some (iV k)) (hO2 : w.cell? ⟨O, 2, none⟩ = some (iV dx)) (hO3 : w.cell? ⟨O, 3, none⟩ = some (iV dy)) (hB : w.cell? ⟨Bb, 0, none⟩ = some v) (hA : w.cell? ⟨At, 0, none⟩ = some (iV n)) :
    Calls Tryd.prog 56 #[dotV p, .pointer (some ⟨O, 0, none⟩), .pointer (some ⟨Bb, 0, none⟩), .pointer (some ⟨At, 0, none⟩)] w (Ret (.bool (hasB (shiftD k p q) dx dy)) w) := by
  have HSH := hide (fun (W : World) hG => shifts_any k p q W hk hp hq hG)
  have HHA := hide (fun (W : World) => has_any (shiftD k p q) dx dy W)
  generalize hasB (shiftD k p q) dx dy = R at *
  generalize shiftD k p q = S at *
  obtain ⟨a, c, rfl, hl1, hl2, hc⟩ := hv
  obtain ⟨bl, o, rfl, hck⟩ := hc n hn
  rw [hnq] at hck
  clear hc hnq hp hq
  obtain ⟨pi, px, py, pt⟩ := p
  obtain ⟨qi, qx, qy, qt⟩ := q
  obtain ⟨sl, sh, tl, th⟩ := S
  have hb := bal w (.cells #[iV pi, iV px, iV py, iV pt] 53)
  have E0 := bwc (show (w.alloc (.cells #[iV pi, iV px, iV py, iV pt] 53)).cell? ⟨bl, o + n * 4, none⟩ = some (iV qi) from keep hb (hck 0 _ rfl))
  have E1 := bwc (show (w.alloc (.cells #[iV pi, iV px, iV py, iV pt] 53)).cell? ⟨bl, o + n * 4 + 1, none⟩ = some (iV qx) from keep hb (hck 1 _ rfl))
  have E2 := bwc (show (w.alloc (.cells #[iV pi, iV px, iV py, iV pt] 53)).cell? ⟨bl, o + n * 4 + 2, none⟩ = some (iV qy) from keep hb (hck 2 _ rfl))
  have E3 := bwc (show (w.alloc (.cells #[iV pi, iV px, iV py, iV pt] 53)).cell? ⟨bl, o + n * 4 + 3, none⟩ = some (iV qt) from keep hb (hck 3 _ rfl))
  have O1 := bwc (keep hb hO1)
  have O2 := bwc (keep hb hO2)
  have O3 := bwc (keep hb hO3)
  have OB := bwc (keep hb hB)
  have OA := bwc (keep hb hA)
  have hGX := hG.later hb
  have bP := Blk.new w [iV pi, iV px, iV py, iV pt] 53
  have P0 := bwc (bP.cell 0 rfl)
  have P1 := bwc (bP.cell 1 rfl)
  have P2 := bwc (bP.cell 2 rfl)
  have P3 := bwc (bP.cell 3 rfl)
  clear hck hO1 hO2 hO3 hB hA bP
  go_enter Tryd.func56, Tryd.ntmps56
  go_wp2_with fail
  refine wp_region_bw (by kernel_rfl) (by kernel_rfl) ?_
  repeat (go_big_quiet_step ((first | (go_at_call 42; exact quiet (HSH.out _ (hGX.later (Bw.h _)))) | (go_at_call 46; exact quiet (HHA.out _)))))
  refine wpQuiet_nil ?_
  rintro _ ⟨i, rfl⟩
  go_wp2_with fail
  go_ret
  exact ⟨rfl, below2 hb i.h⟩
end Go.Proofs.YtoofkahklboojaaDoor
