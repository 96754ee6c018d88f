/- The walk of DiskSynced. Conditions: that integers are of 64 bits; how the list lies in memory. -/
import Derived.Test.YtednelejpkchbaaLkF
namespace Go.Proofs.Ytednelejpkchbaa
open Go.RowKit

theorem crash_none (d : DiskD) (torn : Int) : crashF d [] torn = d.dur := by
  have e : ordF d.pend.length [] = [] := by
    have e : sortF [] = [] := by simp [sortF]
    unfold ordF; rw [e]; rfl
  unfold crashF; rw [e]; rfl
set_option maxRecDepth 20000 in
set_option maxHeartbeats 2000000 in
theorem synced_any (size : Int) (l : List WPar) (lv : Value) (torn : Int) (w : World) (h1 : i64B size) (hl : WParsIn w.cell? lv l) (h2 : i64B torn) :
    Calls Try.prog 7 #[.int .i64 size, lv, .int .i64 torn] w (Ret (.bool true) w) := by
  obtain ⟨la, lc, rfl, hlc, hlc2, hlw⟩ := hl
  have HLW := hide hlw
  clear hlw
  obtain ⟨n0, hn0, hn0'⟩ : ∃ n0 : Nat, pickF size 300 = n0 ∧ n0 < 300 := ⟨(pickF size 300).toNat, by have := pickF_nonneg size (n := 300) (by decide); omega, by have := pickF_lt size (n := 300) (by decide); omega⟩
  have HPK := hide (fun W => pick_any size 300 W h1.1 h1.2 (by decide) (by decide))
  rw [hn0] at HPK
  clear hn0
  go_enter Try.func7, Try.ntmps7
  go_wp2_with fail
  refine (sane_any w).mono ?_
  rintro e w1 ⟨rfl, hb1⟩
  go_wp2_with fail
  refine (HPK.out w1).mono ?_
  rintro e w2 ⟨rfl, hw2⟩
  obtain rfl := hw2.symm
  go_wp2_with fail
  refine (new_any (1 + (n0 : Int)) w1).mono ?_
  rintro e w2 (⟨hn, -, -⟩ | ⟨m, D, U, V, hm, hm1, hm2, rfl, hDB, hUB, hVB, hA, hL⟩)
  · exact absurd ⟨by omega, by omega⟩ hn
  rw [hm]
  have hO := on_new hA (Nat.le_trans hb1.size hDB) (Nat.le_trans hb1.size hUB) (Nat.le_trans hb1.size hVB)
  have hm3 : m ≤ 300 := by omega
  have hbw := below2 hb1 hL
  have hUl := hA.hU.lt
  have hVl := hA.hV.lt
  have hmk := @mkBytes m (by omega)
  clear hb1 hm hA hDB hUB hVB hL
  have hcv := blk_str (Blk.newA w2 (bytesV (List.replicate m 0)).toArray (vs := bytesV (List.replicate m 0)) (t := 5) rfl) (m := m) (by simp)
  go_wp2_with fail
  clear hcv
  generalize hX : World.alloc w2 _ = X
  have hbX : Below w2.heap.size w2 X := by rw [← hX]; exact bal w2 _
  have bb : Blk X w2.heap.size (bytesV (List.replicate m 0)) 5 := by rw [← hX]; exact Blk.newA w2 _ rfl
  have hOX := hO.later hbX
  have hbX' := below2 hbw hbX
  have HN := hide (And.intro (show w2.heap.size ≠ U by omega) (And.intro (show w2.heap.size ≠ V by omega) hbw.size))
  have hBX := hbX'.size
  clear hX hbX hO hUl hVl hmk hbw
  generalize w2.heap.size = b at *
  go_loopw [11, 12] (fun su i wr => ∃ (k : Nat) (pv : Value), k ≤ l.length ∧ k ≤ 60 ∧ i = .int .i64 k ∧ su = .string ⟨(runW m l k).dur.toArray⟩ ∧ OnDisk m w.heap.size wr D U V pv (runW m l k) ∧ Blk wr b (bytesV (runW m l k).vis) 5 ∧ Below w.heap.size w wr) (fun _ i _ => l.length - (intOf i).toNat)
  case atStart => exact ⟨0, _, by omega, by omega, rfl, rfl, hOX, bb, hbX'⟩
  case round =>
    obtain ⟨k, pv, hk, hk60, rfl, rfl, hO, bb, hbr⟩ := hrel
    have hlc3 : (l.length : Int) ≤ 9223372036854775807 := by omega
    by_cases hlt : k < l.length
    · by_cases h60 : k < 60
      · skip
        obtain ⟨i1, i2, bl, ol, rfl, cl0, cl1, cl2⟩ := HLW.out k hlt
        have HS := hide (show runW m l (k + 1) = stepW m (runW m l k) (l.getD k wp0) from rfl)
        have c0 := keep hbr cl0
        have c1 := keep hbr cl1
        have c2 := keep hbr cl2
        have HPL := hide (runW_pend m l k)
        have HFIT := hide (fit_in m (l.getD k wp0))
        have hfits := fits_any (l.getD k wp0) m wr i1 i2 (by omega)
        have hpo : Hid (∀ d, stepW m d (l.getD k wp0) = (if (l.getD k wp0).sync then syncD (putD d (offN m (l.getD k wp0)) (strN m (l.getD k wp0)).data.toList) else putD d (offN m (l.getD k wp0)) (strN m (l.getD k wp0)).data.toList)) := hide fun d => rfl
        generalize offN m (l.getD k wp0) = o at *
        generalize strN m (l.getD k wp0) = s at *
        generalize l.getD k wp0 = p at *
        generalize runW m l k = d at *
        obtain ⟨po, ps, py⟩ := p
        clear i1 i2 cl0 cl1 cl2
        have HF := hide hfits
        clear hfits
        go_wp2_with fail
        refine HF.out.mono ?_
        rintro e w3 ⟨rfl, hb3⟩
        have hO3 := hO.later hb3
        have hbr3 := below2 hbr hb3
        have bb3 := bb.later hb3
        clear hO bb hbr HF c0 c1 c2 hb3
        go_wp2_with fail
        generalize hX4 : World.alloc w3 _ = w4
        have hb4 : Below w3.heap.size w3 w4 := by rw [← hX4]; exact bal w3 _
        have bW : Blk w4 w3.heap.size [.int .i64 o, .string s, .bool py] 53 := by rw [← hX4]; exact Blk.newA w3 _ rfl
        have hO4 := hO3.later hb4
        have hbr4 := below2 hbr3 hb4
        have bb4 := bb3.later hb4
        have hput := put_any b o s d.vis m w4 bb4 (by rw [hO4.vis]; exact HFIT.out) (by rw [hO4.vis]; omega)
        rw [hO4.vis] at hput
        clear hX4 hb4 hO3 bb3 hbr3
        refine hput.mono ?_
        rintro e w5 ⟨rfl, bb5, hE5⟩
        have hN := HN.out
        have hO5 := hO4.eff hE5 (fun k hk e => off_set hO4.hA bb4 hN.1 hN.2.1 (by rw [← show k = b from e]; exact hk))
        have bW5 := bW.eff hE5 (fun e => bW.neT bb4 (by decide) e)
        have hbr5 := hbr4.trans (hE5.below hbr4.size (fun k hk => by rw [show k = b from hk]; exact hN.2.2))
        have hoff5 := off_set hO5.hA bb5 hN.1 hN.2.1
        clear hput hN bb4 hO4 bW hbr4 hE5
        have hwr := write_on o s hO5 hbr5.size (by omega) HFIT.out (by have := HPL.out; omega)
        have hoffW := off_typ hO5.hA bW5 (by decide) (by decide) (by decide)
        have b0 := bW5.cell 0 rfl
        have b1 := bW5.cell 1 rfl
        have HWR := hide hwr
        clear hwr
        go_wp2_with fail
        refine HWR.out.mono ?_
        rintro e w6 ⟨rfl, pv6, hO6, hE6, hob6⟩
        have bW6 := bW5.eff hE6 hoffW
        have hbr6 := hbr5.trans (hE6.below hbr5.size hO5.low)
        have b2 := bW6.cell 2 rfl
        have bb6 := bb5.eff hE6 hoff5
        clear HWR b0 b1 hoff5 hoffW hE6 hbr5 bb5 bW5 hO5
        cases py
        · skip
          have HST : Hid (runW m l (k + 1) = putD d o s.data.toList) := hide (by rw [HS.out, hpo.out]; rfl)
          have hconv : (convert 40 9 (.slice (some ⟨b, 0, none⟩) m m)).run Try.prog w6 = .ok (.string ⟨(splice d.vis o s.data.toList).toArray⟩) w6 := blk_str bb6 (hO6).vis
          go_wp2_with fail
          go_roundw
          case rel => exact ⟨k + 1, _, by omega, by omega, by go_num, by rw [HST.out]; rfl, by rw [HST.out]; exact hO6, by rw [HST.out]; exact bb6, hbr6⟩
          case measure => simp [intOf]; omega
        · have hoff6 := off_set hO6.hA bb6 HN.out.1 HN.out.2.1
          have HSY := hide (sync_do hO6 hbr6.size)
          have hoffW := off_typ hO6.hA bW6 (by decide) (by decide) (by decide)
          have HST : Hid (runW m l (k + 1) = syncD (putD d o s.data.toList)) := hide (by rw [HS.out, hpo.out]; rfl)
          go_wp2_with fail
          refine HSY.out.mono ?_
          rintro e w7 ⟨rfl, pv7, hO7, hE7, hob7⟩
          have bW7 := bW6.eff hE7 hoffW
          have hbr7 := hbr6.trans (hE7.below hbr6.size hO6.low)
          clear HSY b2 hoffW
          have b2 := bW7.cell 2 rfl
          have bb7 : Blk w7 b (bytesV (syncD (putD d o s.data.toList)).vis) 5 := bb6.eff hE7 hoff6
          clear hoff6 hE7 hbr6 bb6 bW6 hO6
          have hconv : (convert 40 9 (.slice (some ⟨b, 0, none⟩) m m)).run Try.prog w7 = .ok (.string ⟨(splice d.vis o s.data.toList).toArray⟩) w7 := blk_str bb7 (hO7).vis
          go_wp2_with fail
          go_roundw
          case rel => exact ⟨k + 1, _, by omega, by omega, by go_num, by rw [HST.out]; rfl, by rw [HST.out]; exact hO7, by rw [HST.out]; exact bb7, hbr7⟩
          case measure => simp [intOf]; omega
      · obtain rfl : k = 60 := by omega
        have HPL := hide (runW_pend m l 60)
        have HCR := hide (crash_do (K := []) (kv := .slice none 0 0) (torn := torn) hO hbr.size (by omega) (by have := HPL.out; omega) (IntsIn.nil _) (by decide) h2)
        go_wp2_with fail
        refine HCR.out.mono ?_
        rintro e w3 ⟨rfl, pv3, hO3, hE3, hob3⟩
        have hbr3 := hbr.trans (hE3.below hbr.size hO.low)
        have hrd := read_all hO3 (by omega)
        have e1 : (crashD (runW m l 60) [] torn).vis = (runW m l 60).dur := crash_none _ _
        rw [e1] at hrd
        have HRD := hide hrd
        obtain ⟨pa, pc, rfl⟩ : ∃ a c, pv3 = .slice a 0 c := by
          rcases hO3.hA.hP.form with ⟨rfl, -⟩ | ⟨g, c, cur, e, -⟩
          · exact ⟨none, 0, rfl⟩
          · exact ⟨_, c, e⟩
        have hq : Calls Try.prog 17 #[.pointer (some ⟨D, 0, none⟩)] w3 (NumQ 0 w3) := pending_any D w3 pa 0 pc (hO3.hA.hD.cell 4 rfl)
        have HQ := hide hq
        clear HCR hrd hq e1
        go_wp2_with fail
        refine HRD.out.mono ?_
        rintro e w8 ⟨rfl, hw8⟩
        obtain rfl := hw8
        go_wp2_with (go_at_call 17; refine HQ.out.mono ?_; rintro e w9 ⟨rfl, rfl⟩)
        go_ret
        exact ⟨rfl, hbr3⟩
    · obtain rfl : k = l.length := by omega
      have HPL := hide (runW_pend m l l.length)
      have HCR := hide (crash_do (K := []) (kv := .slice none 0 0) (torn := torn) hO hbr.size (by omega) (by have := HPL.out; omega) (IntsIn.nil _) (by decide) h2)
      go_wp2_with fail
      refine HCR.out.mono ?_
      rintro e w3 ⟨rfl, pv3, hO3, hE3, hob3⟩
      have hbr3 := hbr.trans (hE3.below hbr.size hO.low)
      have hrd := read_all hO3 (by omega)
      have e1 : (crashD (runW m l l.length) [] torn).vis = (runW m l l.length).dur := crash_none _ _
      rw [e1] at hrd
      have HRD := hide hrd
      obtain ⟨pa, pc, rfl⟩ : ∃ a c, pv3 = .slice a 0 c := by
        rcases hO3.hA.hP.form with ⟨rfl, -⟩ | ⟨g, c, cur, e, -⟩
        · exact ⟨none, 0, rfl⟩
        · exact ⟨_, c, e⟩
      have hq : Calls Try.prog 17 #[.pointer (some ⟨D, 0, none⟩)] w3 (NumQ 0 w3) := pending_any D w3 pa 0 pc (hO3.hA.hD.cell 4 rfl)
      have HQ := hide hq
      clear HCR hrd hq e1
      go_wp2_with fail
      refine HRD.out.mono ?_
      rintro e w8 ⟨rfl, hw8⟩
      obtain rfl := hw8
      go_wp2_with (go_at_call 17; refine HQ.out.mono ?_; rintro e w9 ⟨rfl, rfl⟩)
      go_ret
      exact ⟨rfl, hbr3⟩
end Go.Proofs.Ytednelejpkchbaa
