/- The walk of slices.DeleteFunc with the closure of Crash. Conditions: how the arguments lie in memory. -/
import Derived.Test.YtednelejpkchbaaDelG
import Derived.Test.YtednelejpkchbaaOwnS
namespace Go.Proofs.Ytednelejpkchbaa
open Go.RowKit

theorem idxF_first {p : Int → Bool} : ∀ {l : List Int}, l.any p = true → ∃ k : Nat, k < l.length ∧ idxF p l = (k : Int) ∧ (l.take k).any p = false ∧ p (l.getD k 0) = true
  | [], h => by simp at h
  | x :: t, h => by
    by_cases hx : p x = true
    · exact ⟨0, by simp, by simp [idxF, hx], by simp, by simpa using hx⟩
    · have ht : t.any p = true := by simp only [List.any_cons, Bool.or_eq_true] at h; exact h.resolve_left hx
      obtain ⟨k, h1, h2, h3, h4⟩ := idxF_first ht
      refine ⟨k + 1, by simp; omega, ?_, by simp only [List.take_succ_cons, List.any_cons, h3]; simpa using hx, by simpa using h4⟩
      simp only [idxF, if_neg hx, h2]
      rw [if_neg (by omega)]; omega
theorem run_cutI (g n c i : Nat) (h : i ≤ n) (hc : n ≤ c) (w : World) : (Instr.slice 37 (.slice (some ⟨g, 0, none⟩) n c) (some (.int .i64 (i : Int))) none none).run Try.prog w = .ok (.slice (some ⟨g, cutAt c i, none⟩) (n - i) (c - i)) w := by
  have hu := Try.underlying37
  have h1 : (0 : Int) ≤ (i : Int) := by omega
  have h2 : (i : Int) ≤ (n : Int) := by omega
  simp [Instr.slice, run_underlying hu, Instr.sliceBounds, run_sliceBound, h1, h2, cutAt]
  by_cases e : c = i
  · simp [e]
  · simp [e, Addr.add]; exact fun h => h.symm
theorem run_cutToI (g n c i : Nat) (h : i ≤ c) (w : World) : (Instr.slice 37 (.slice (some ⟨g, 0, none⟩) n c) none (some (.int .i64 (i : Int))) none).run Try.prog w = .ok (.slice (some ⟨g, 0, none⟩) i c) w := by
  have hu := Try.underlying37
  have h1 : (0 : Int) ≤ (i : Int) := by omega
  have h2 : (i : Int) ≤ (c : Int) := by omega
  simp [Instr.slice, run_underlying hu, Instr.sliceBounds, run_sliceBound, h1, h2, Addr.add]
set_option maxRecDepth 20000 in
set_option maxHeartbeats 1000000 in
theorem del_any (l : List Int) (v : Value) (B Bx D m : Nat) (w : World) (hv : OwnI w B v l) (hB : B ≤ w.heap.size) (hl : l.length < 1000000) (hR : Reads Bx D m w) (hBx : Bx < B) (hDB : D < B) :
    Calls Try.prog 41 #[v, .func (.func 42) #[] #[.pointer (some ⟨Bx, 0, none⟩)]] w (OwnTo B (keepI m l) w) := by
  have HI := hide (idx_any l v Bx D m w hv.ints hR)
  cases ha : l.any (outB m)
  · have HN := hide (idxF_none (outB m) l ha)
    have HK := hide (keepI_all ha)
    have HV := hide hv
    obtain ⟨va, vc, rfl⟩ := hv.form
    clear ha hv hR
    go_enter Try.func41, Try.ntmps41
    go_wp2_with (go_at_call 48; refine HI.out.mono ?_; rw [HN.out]; rintro e w1 ⟨rfl, rfl⟩)
    go_ret
    exact ⟨_, rfl, by rw [HK.out]; exact HV.out, Below.refl _ _⟩
  · obtain ⟨k, hk, hidx, hpre, hx⟩ := idxF_first ha
    have HN := hide hidx
    have HST := hide (DelSt.start hk hpre hx)
    have e1 : ((k : Int) == -1) = false := by simp
    obtain ⟨g, c, rfl⟩ : ∃ g c, v = .slice (some ⟨g, 0, none⟩) l.length c := by
      rcases hv.2 with ⟨-, e⟩ | ⟨g', cap, cur, e, -⟩
      · omega
      · exact ⟨g', cap, e⟩
    obtain ⟨-, k2, k3, k4⟩ := own_holds hv
    have hcm : (c : Int) ≤ 9223372036854775807 := by
      rcases hv.2 with ⟨e, -⟩ | ⟨g', cap, cur, e, -, -, -, e5, -⟩
      · cases e
      · cases e; unfold maxLen at e5; omega
    have HRD := hide hR
    have hll : (l.length : Int) ≤ 9223372036854775807 := by omega
    clear ha hidx hpre hx hR
    go_enter Try.func41, Try.ntmps41
    go_wp2_with (go_at_call 48; refine HI.out.mono ?_; rw [HN.out]; rintro e w1 ⟨rfl, rfl⟩)
    go_loopw [5, 6] (fun i j wr => ∃ (i' j' : Nat) (st : List Int), j' ≤ l.length ∧ i = .int .i64 i' ∧ j = .int .i64 j' ∧ Hid (DelSt m l st j' i') ∧ OwnI wr B (.slice (some ⟨g, 0, none⟩) l.length c) st ∧ Eff (· = g) w wr) (fun _ j _ => l.length - (intOf j).toNat)
    case atStart => exact ⟨k, k + 1, l, by omega, rfl, by go_num, HST, hv, Eff.refl _ _⟩
    case round =>
      obtain ⟨i, j, st, hj, rfl, rfl, HS, hown, hE⟩ := hrel
      have HRr := hide (HRD.out.eff hE (by omega) (by omega))
      have hij := HS.out.le
      by_cases hlt : j < l.length
      · have hsl := HS.out.len
        have cj := hown.cellAt (j := j) (by omega)
        have ci := hown.cellAt (j := i) (by omega)
        have fi := hown.frozenAt i
        rw [HS.out.get hlt] at cj
        have HY := hide (HS.out.keep hlt)
        have HX := hide (HS.out.skip hlt)
        have hst := hown.stored i (l.getD j 0)
        obtain ⟨x, hx⟩ : ∃ x, l.getD j 0 = x := ⟨_, rfl⟩
        obtain ⟨y, hy⟩ : ∃ y, st.getD i 0 = y := ⟨_, rfl⟩
        rw [hx] at cj HY HX hst
        rw [hy] at ci
        have HO := hide hown
        clear hx hy hsl hown
        cases hb : outB m x
        · have HBB := hide hb
          clear hb
          go_wp2_with (go_at_call 42; refine (crash1_any x Bx D m _ HRr.out).mono ?_; rw [HBB.out]; rintro e w1 ⟨rfl, rfl⟩)
          go_roundw
          case rel => exact ⟨i + 1, j + 1, st.set i x, by omega, by go_num, by go_num, hide (HY.out HBB.out), hst, hE.trans (Eff.setCell _ g i _)⟩
          case measure => simp [intOf]; omega
        · have HBB := hide hb
          clear hb
          go_wp2_with (go_at_call 42; refine (crash1_any x Bx D m _ HRr.out).mono ?_; rw [HBB.out]; rintro e w1 ⟨rfl, rfl⟩)
          go_roundw
          case rel => exact ⟨i, j + 1, st, by omega, rfl, by go_num, hide (HX.out HBB.out), HO.out, hE⟩
          case measure => simp [intOf]; omega
      · obtain rfl : j = l.length := by omega
        obtain ⟨h1, h2⟩ := hown
        rw [HS.out.len] at h1 h2
        rcases h2 with ⟨e, -⟩ | ⟨g', cap, cur, e, e2, e3, e4, e5, e6, e7⟩
        · cases e
        cases e
        obtain ⟨w2, hclear, hE2, cur', hg2, hs2, ht2⟩ := run_clear_from wr g i l.length c cur e3 hij e4 (by simpa using e6)
        have hcut := run_cutI g l.length c i hij e4
        have hcut2 := run_cutToI g l.length c i (by omega)
        have hfin : OwnI w2 B (.slice (some ⟨g, 0, none⟩) i c) (keepI m l) := by
          have hp := HS.out.pre
          have hn := HS.out.num
          rw [List.take_length] at hp hn
          refine ⟨by simp, .inr ⟨g, c, cur', by rw [← hn], e2, hg2, by rw [← hn]; omega, e5, by simpa using hs2, ?_⟩⟩
          rw [Nat.mul_one, ← hn, ht2]
          have := congrArg (List.take i) e7
          rw [List.take_take, Nat.mul_one, Nat.min_eq_left (by have := HS.out.len; omega)] at this
          rw [this, ← List.map_take, hp]
        have HF := hide hfin
        have HE2 := hide ((hE.trans hE2).below hB (fun k hk => by rw [hk]; exact k3))
        clear hfin e3 e4 e6 e7 hg2 hs2 ht2 h1 e2 e5
        go_wp2_with fail
        go_ret
        exact ⟨_, rfl, HF.out, HE2.out⟩
end Go.Proofs.Ytednelejpkchbaa
