/- The walk of DiskAllSurvive. Conditions: that integers are of 64 bits; how the list lies in memory. -/
import Derived.Test.YtednelejpkchbaaLkG
import Derived.Test.YtednelejpkchbaaPlK
namespace Go.Proofs.Ytednelejpkchbaa
open Go.RowKit

set_option maxRecDepth 20000 in
set_option maxHeartbeats 2000000 in
theorem survive_any (size : Int) (l : List WPar) (lv : Value) (w : World) (h1 : i64B size) (hl : WParsIn w.cell? lv l) :
    Calls Try.prog 9 #[.int .i64 size, lv] w (Ret (.bool true) w) := by
  obtain ⟨la, lc, rfl, hlc, hlc2, hlw⟩ := hl
  have HLW := hide hlw
  clear hlw
  obtain ⟨n0, hn0, hn0'⟩ : ∃ n0 : Nat, pickF size 300 = n0 ∧ n0 < 300 := ⟨(pickF size 300).toNat, by have := pickF_nonneg size (n := 300) (by decide); omega, by have := pickF_lt size (n := 300) (by decide); omega⟩
  have HPK := hide (fun W => pick_any size 300 W h1.1 h1.2 (by decide) (by decide))
  rw [hn0] at HPK
  clear hn0
  go_enter Try.func9, Try.ntmps9
  go_wp2_with fail
  refine (sane_any w).mono ?_
  rintro e w1 ⟨rfl, hb1⟩
  go_wp2_with fail
  refine (HPK.out w1).mono ?_
  rintro e w2 ⟨rfl, hw2⟩
  obtain rfl := hw2.symm
  go_wp2_with fail
  refine (new_any (1 + (n0 : Int)) w1).mono ?_
  rintro e w2 (⟨hn, -, -⟩ | ⟨m, D, U, V, hm, hm1, hm2, rfl, hDB, hUB, hVB, hA, hL⟩)
  · exact absurd ⟨by omega, by omega⟩ hn
  rw [hm]
  have hO := on_new hA (Nat.le_trans hb1.size hDB) (Nat.le_trans hb1.size hUB) (Nat.le_trans hb1.size hVB)
  have hm3 : m ≤ 300 := by omega
  have hbw := below2 hb1 hL
  have hUl := hA.hU.lt
  have hVl := hA.hV.lt
  have hmk := @mkBytes m (by omega)
  clear hb1 hm hA hDB hUB hVB hL
  clear hmk hUl hVl
  go_wp2_with fail
  go_loopw [8] (fun i wr => ∃ (k : Nat) (pv : Value), k ≤ l.length ∧ k ≤ 60 ∧ i = .int .i64 k ∧ OnDisk m w.heap.size wr D U V pv (runW m l k) ∧ Below w.heap.size w wr) (fun i _ => l.length - (intOf i).toNat)
  case atStart => exact ⟨0, _, by omega, by omega, rfl, hO, hbw⟩
  case round =>
    obtain ⟨k, pv, hk, hk60, rfl, hO, hbr⟩ := hrel
    have hlc3 : (l.length : Int) ≤ 9223372036854775807 := by omega
    by_cases hlt : k < l.length
    · by_cases h60 : k < 60
      · skip
        obtain ⟨i1, i2, bl, ol, rfl, cl0, cl1, cl2⟩ := HLW.out k hlt
        have HS := hide (show runW m l (k + 1) = stepW m (runW m l k) (l.getD k wp0) from rfl)
        have c0 := keep hbr cl0
        have c1 := keep hbr cl1
        have c2 := keep hbr cl2
        have HPL := hide (runW_pend m l k)
        have HFIT := hide (fit_in m (l.getD k wp0))
        have hfits := fits_any (l.getD k wp0) m wr i1 i2 (by omega)
        have hpo : Hid (∀ d, stepW m d (l.getD k wp0) = (if (l.getD k wp0).sync then syncD (putD d (offN m (l.getD k wp0)) (strN m (l.getD k wp0)).data.toList) else putD d (offN m (l.getD k wp0)) (strN m (l.getD k wp0)).data.toList)) := hide fun d => rfl
        generalize offN m (l.getD k wp0) = o at *
        generalize strN m (l.getD k wp0) = s at *
        generalize l.getD k wp0 = p at *
        generalize runW m l k = d at *
        obtain ⟨po, ps, py⟩ := p
        clear i1 i2 cl0 cl1 cl2
        have HF := hide hfits
        clear hfits
        go_wp2_with fail
        refine HF.out.mono ?_
        rintro e w3 ⟨rfl, hb3⟩
        have hO3 := hO.later hb3
        have hbr3 := below2 hbr hb3
        clear hO hbr HF c0 c1 c2 hb3
        go_wp2_with fail
        generalize hX4 : World.alloc w3 _ = w4
        have hb4 : Below w3.heap.size w3 w4 := by rw [← hX4]; exact bal w3 _
        have bW : Blk w4 w3.heap.size [.int .i64 o, .string s, .bool py] 53 := by rw [← hX4]; exact Blk.newA w3 _ rfl
        have hO4 := hO3.later hb4
        have hbr4 := below2 hbr3 hb4
        have hO5 := hO4
        have bW5 := bW
        have hbr5 := hbr4
        clear hX4 hb4 hO3 hbr3 hO4 bW hbr4
        have hwr := write_on o s hO5 hbr5.size (by omega) HFIT.out (by have := HPL.out; omega)
        have hoffW := off_typ hO5.hA bW5 (by decide) (by decide) (by decide)
        have b0 := bW5.cell 0 rfl
        have b1 := bW5.cell 1 rfl
        have HWR := hide hwr
        clear hwr
        go_wp2_with fail
        refine HWR.out.mono ?_
        rintro e w6 ⟨rfl, pv6, hO6, hE6, hob6⟩
        have bW6 := bW5.eff hE6 hoffW
        have hbr6 := hbr5.trans (hE6.below hbr5.size hO5.low)
        have b2 := bW6.cell 2 rfl
        clear HWR b0 b1 hoffW hE6 hbr5 bW5 hO5
        cases py
        · skip
          have HST : Hid (runW m l (k + 1) = putD d o s.data.toList) := hide (by rw [HS.out, hpo.out]; rfl)
          go_wp2_with fail
          go_roundw
          case rel => exact ⟨k + 1, _, by omega, by omega, by go_num, by rw [HST.out]; exact hO6, hbr6⟩
          case measure => simp [intOf]; omega
        · skip
          have HSY := hide (sync_do hO6 hbr6.size)
          have hoffW := off_typ hO6.hA bW6 (by decide) (by decide) (by decide)
          have HST : Hid (runW m l (k + 1) = syncD (putD d o s.data.toList)) := hide (by rw [HS.out, hpo.out]; rfl)
          go_wp2_with fail
          refine HSY.out.mono ?_
          rintro e w7 ⟨rfl, pv7, hO7, hE7, hob7⟩
          have bW7 := bW6.eff hE7 hoffW
          have hbr7 := hbr6.trans (hE7.below hbr6.size hO6.low)
          clear HSY b2 hoffW
          have b2 := bW7.cell 2 rfl
          clear hE7 hbr6 bW6 hO6
          go_wp2_with fail
          go_roundw
          case rel => exact ⟨k + 1, _, by omega, by omega, by go_num, by rw [HST.out]; exact hO7, hbr7⟩
          case measure => simp [intOf]; omega
      · obtain rfl : k = 60 := by omega
        have HVI := hide (runW_vis m l 60)
        have HPL := hide (runW_pend m l 60)
        have HRD := hide (read_all hO (by omega))
        generalize runW m l 60 = d at *
        go_wp2_with fail
        refine HRD.out.mono ?_
        rintro e w3 ⟨rfl, hw3⟩
        obtain rfl := hw3
        clear HRD
        obtain ⟨pa, pc, rfl⟩ : ∃ a c, pv = .slice a d.pend.length c := by
          rcases hO.hA.hP.form with ⟨rfl, e⟩ | ⟨g, c, cur, e, -⟩
          · have : d.pend = [] := by simpa using e
            rw [this]; exact ⟨none, 0, rfl⟩
          · exact ⟨some ⟨g, 0, none⟩, c, by simpa using e⟩
        obtain ⟨q, hq⟩ : ∃ q, d.pend.length = q := ⟨_, rfl⟩
        rw [hq] at hO
        obtain ⟨ws, rfl⟩ : ∃ W : World, W = wr := ⟨_, rfl⟩
        have HQ := hide hq
        have hq60 : q ≤ 60 := by have := HPL.out; omega
        clear hq
        go_wp2_with fail
        go_loopw [12, 13] (fun al i wr => ∃ j : Nat, j ≤ q ∧ i = .int .i64 j ∧ OwnI wr ws.heap.size al (rangeI j) ∧ Below ws.heap.size ws wr) (fun _ i _ => q - (intOf i).toNat)
        case atStart => exact ⟨0, by omega, rfl, OwnI.nil _ _, Below.refl _ _⟩
        case round =>
          obtain ⟨j, hj, rfl, hown, hbj⟩ := hrel
          have hp : Calls Try.prog 17 #[.pointer (some ⟨D, 0, none⟩)] wr (NumQ q wr) := pending_any D wr pa q pc ((hO.later hbj).hA.hD.cell 4 rfl)
          have HP := hide hp
          have hjs := hbj.size
          have hlen : (rangeI j).length < 1000000 := by rw [rangeI_len]; omega
          have HSU := hide (rangeI_succ j)
          clear hp
          by_cases hjq : j < q
          · go_wp2_with (first | (go_at_call 17; refine HP.out.mono ?_; rintro e w9 ⟨rfl, rfl⟩) | (at_builtin; refine app_int rfl _ _ rfl ws.heap.size _ _ rfl hown j rfl hlen hjs ?_; intro v' w3 hown3 hb3 hz3))
            go_roundw
            case rel => exact ⟨j + 1, by omega, by go_num, by rw [HSU.out]; exact hown3, hbj.trans hb3⟩
            case measure => simp [intOf]; omega
          · obtain rfl : j = q := by omega
            have hOj := hO.later hbj
            have hbrj := hbr.trans (hbj.mono hbr.size)
            have hcr := crash_do (K := rangeI j) (torn := -1) hOj hbrj.size (by omega) (by have := HPL.out; omega) hown.ints hlen ⟨by decide, by decide⟩
            rw [show crashD d (rangeI j) (-1) = ⟨false, 0, d.vis, d.vis, []⟩ by unfold crashD; rw [← HQ.out, crash_all, HVI.out]] at hcr
            have HCR := hide hcr
            clear hcr
            go_wp2_with (first | (go_at_call 17; refine HP.out.mono ?_; rintro e w9 ⟨rfl, rfl⟩) | fail)
            refine HCR.out.mono ?_
            rintro e w4 ⟨rfl, pv4, hO4, hE4, hob4⟩
            have hbr4 := hbrj.trans (hE4.below hbrj.size hOj.low)
            have hrd : Calls Try.prog 14 #[.pointer (some ⟨D, 0, none⟩), .int .i64 0, .int .i64 m] w4 (StrQ ⟨d.vis.toArray⟩ 0 w4) := read_all (d := ⟨false, 0, d.vis, d.vis, []⟩) hO4 (by omega)
            have hcr := crash_do (K := []) (kv := .slice none 0 0) (torn := 0) hO4 hbr4.size (by omega) (Nat.zero_lt_succ _) (IntsIn.nil _) (by decide) ⟨by decide, by decide⟩
            have hcd : crashD ⟨false, 0, d.vis, d.vis, []⟩ [] 0 = ⟨false, 0, d.vis, d.vis, []⟩ := by unfold crashD; rw [crash_none]
            rw [hcd] at hcr
            have HR4 := hide hrd
            have HC4 := hide hcr
            clear hrd hcr hcd HCR HP hown hbj
            go_wp2_with fail
            refine HR4.out.mono ?_
            rintro e w5 ⟨rfl, hw5⟩
            obtain rfl := hw5
            go_wp2_with fail
            refine HC4.out.mono ?_
            rintro e w6 ⟨rfl, pv6, hO6, hE6, hob6⟩
            have hbr6 := hbr4.trans (hE6.below hbr4.size hO4.low)
            have hrd : Calls Try.prog 14 #[.pointer (some ⟨D, 0, none⟩), .int .i64 0, .int .i64 m] w6 (StrQ ⟨d.vis.toArray⟩ 0 w6) := read_all (d := ⟨false, 0, d.vis, d.vis, []⟩) hO6 (by omega)
            have HR6 := hide hrd
            clear hrd HC4
            go_wp2_with fail
            refine HR6.out.mono ?_
            rintro e w7 ⟨rfl, hw7⟩
            obtain rfl := hw7
            go_wp2_with fail
            go_ret
            exact ⟨rfl, hbr6⟩
    · obtain rfl : k = l.length := by omega
      have HVI := hide (runW_vis m l l.length)
      have HPL := hide (runW_pend m l l.length)
      have HRD := hide (read_all hO (by omega))
      generalize runW m l l.length = d at *
      go_wp2_with fail
      refine HRD.out.mono ?_
      rintro e w3 ⟨rfl, hw3⟩
      obtain rfl := hw3
      clear HRD
      obtain ⟨pa, pc, rfl⟩ : ∃ a c, pv = .slice a d.pend.length c := by
        rcases hO.hA.hP.form with ⟨rfl, e⟩ | ⟨g, c, cur, e, -⟩
        · have : d.pend = [] := by simpa using e
          rw [this]; exact ⟨none, 0, rfl⟩
        · exact ⟨some ⟨g, 0, none⟩, c, by simpa using e⟩
      obtain ⟨q, hq⟩ : ∃ q, d.pend.length = q := ⟨_, rfl⟩
      rw [hq] at hO
      obtain ⟨ws, rfl⟩ : ∃ W : World, W = wr := ⟨_, rfl⟩
      have HQ := hide hq
      have hq60 : q ≤ 60 := by have := HPL.out; omega
      clear hq
      go_wp2_with fail
      go_loopw [12, 13] (fun al i wr => ∃ j : Nat, j ≤ q ∧ i = .int .i64 j ∧ OwnI wr ws.heap.size al (rangeI j) ∧ Below ws.heap.size ws wr) (fun _ i _ => q - (intOf i).toNat)
      case atStart => exact ⟨0, by omega, rfl, OwnI.nil _ _, Below.refl _ _⟩
      case round =>
        obtain ⟨j, hj, rfl, hown, hbj⟩ := hrel
        have hp : Calls Try.prog 17 #[.pointer (some ⟨D, 0, none⟩)] wr (NumQ q wr) := pending_any D wr pa q pc ((hO.later hbj).hA.hD.cell 4 rfl)
        have HP := hide hp
        have hjs := hbj.size
        have hlen : (rangeI j).length < 1000000 := by rw [rangeI_len]; omega
        have HSU := hide (rangeI_succ j)
        clear hp
        by_cases hjq : j < q
        · go_wp2_with (first | (go_at_call 17; refine HP.out.mono ?_; rintro e w9 ⟨rfl, rfl⟩) | (at_builtin; refine app_int rfl _ _ rfl ws.heap.size _ _ rfl hown j rfl hlen hjs ?_; intro v' w3 hown3 hb3 hz3))
          go_roundw
          case rel => exact ⟨j + 1, by omega, by go_num, by rw [HSU.out]; exact hown3, hbj.trans hb3⟩
          case measure => simp [intOf]; omega
        · obtain rfl : j = q := by omega
          have hOj := hO.later hbj
          have hbrj := hbr.trans (hbj.mono hbr.size)
          have hcr := crash_do (K := rangeI j) (torn := -1) hOj hbrj.size (by omega) (by have := HPL.out; omega) hown.ints hlen ⟨by decide, by decide⟩
          rw [show crashD d (rangeI j) (-1) = ⟨false, 0, d.vis, d.vis, []⟩ by unfold crashD; rw [← HQ.out, crash_all, HVI.out]] at hcr
          have HCR := hide hcr
          clear hcr
          go_wp2_with (first | (go_at_call 17; refine HP.out.mono ?_; rintro e w9 ⟨rfl, rfl⟩) | fail)
          refine HCR.out.mono ?_
          rintro e w4 ⟨rfl, pv4, hO4, hE4, hob4⟩
          have hbr4 := hbrj.trans (hE4.below hbrj.size hOj.low)
          have hrd : Calls Try.prog 14 #[.pointer (some ⟨D, 0, none⟩), .int .i64 0, .int .i64 m] w4 (StrQ ⟨d.vis.toArray⟩ 0 w4) := read_all (d := ⟨false, 0, d.vis, d.vis, []⟩) hO4 (by omega)
          have hcr := crash_do (K := []) (kv := .slice none 0 0) (torn := 0) hO4 hbr4.size (by omega) (Nat.zero_lt_succ _) (IntsIn.nil _) (by decide) ⟨by decide, by decide⟩
          have hcd : crashD ⟨false, 0, d.vis, d.vis, []⟩ [] 0 = ⟨false, 0, d.vis, d.vis, []⟩ := by unfold crashD; rw [crash_none]
          rw [hcd] at hcr
          have HR4 := hide hrd
          have HC4 := hide hcr
          clear hrd hcr hcd HCR HP hown hbj
          go_wp2_with fail
          refine HR4.out.mono ?_
          rintro e w5 ⟨rfl, hw5⟩
          obtain rfl := hw5
          go_wp2_with fail
          refine HC4.out.mono ?_
          rintro e w6 ⟨rfl, pv6, hO6, hE6, hob6⟩
          have hbr6 := hbr4.trans (hE6.below hbr4.size hO4.low)
          have hrd : Calls Try.prog 14 #[.pointer (some ⟨D, 0, none⟩), .int .i64 0, .int .i64 m] w6 (StrQ ⟨d.vis.toArray⟩ 0 w6) := read_all (d := ⟨false, 0, d.vis, d.vis, []⟩) hO6 (by omega)
          have HR6 := hide hrd
          clear hrd HC4
          go_wp2_with fail
          refine HR6.out.mono ?_
          rintro e w7 ⟨rfl, hw7⟩
          obtain rfl := hw7
          go_wp2_with fail
          go_ret
          exact ⟨rfl, hbr6⟩
end Go.Proofs.Ytednelejpkchbaa
