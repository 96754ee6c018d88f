/- The walk of DiskReadsBack. Conditions: that integers are of 64 bits; how the list lies in memory. -/
import Derived.Test.YtednelejpkchbaaLkE
namespace Go.Proofs.Ytednelejpkchbaa
open Go.RowKit

theorem blk_str {w : World} {b m : Nat} {l : List UInt8} (h : Blk w b (bytesV l) 5) (hl : l.length = m) : (convert 40 9 (.slice (some ⟨b, 0, none⟩) m m)).run Try.prog w = .ok (.string ⟨l.toArray⟩) w :=
  run_bytes b 0 m m l hl w (fun j hj => by rw [Nat.zero_add]; exact h.cell j (bytes_at l j hj))
set_option maxRecDepth 20000 in
set_option maxHeartbeats 2000000 in
theorem back_any (size : Int) (l : List WPar) (lv : Value) (w : World) (h1 : i64B size) (hl : WParsIn w.cell? lv l) :
    Calls Try.prog 6 #[.int .i64 size, lv] w (Ret (.bool true) w) := by
  obtain ⟨la, lc, rfl, hlc, hlc2, hlw⟩ := hl
  have HLW := hide hlw
  clear hlw
  obtain ⟨n0, hn0, hn0'⟩ : ∃ n0 : Nat, pickF size 300 = n0 ∧ n0 < 300 := ⟨(pickF size 300).toNat, by have := pickF_nonneg size (n := 300) (by decide); omega, by have := pickF_lt size (n := 300) (by decide); omega⟩
  have HPK := hide (fun W => pick_any size 300 W h1.1 h1.2 (by decide) (by decide))
  rw [hn0] at HPK
  clear hn0
  go_enter Try.func6, Try.ntmps6
  go_wp2_with fail
  refine (sane_any w).mono ?_
  rintro e w1 ⟨rfl, hb1⟩
  go_wp2_with fail
  refine (HPK.out w1).mono ?_
  rintro e w2 ⟨rfl, hw2⟩
  obtain rfl := hw2.symm
  go_wp2_with fail
  refine (new_any (1 + (n0 : Int)) w1).mono ?_
  rintro e w2 (⟨hn, -, -⟩ | ⟨m, D, U, V, hm, hm1, hm2, rfl, hDB, hUB, hVB, hA, hL⟩)
  · exact absurd ⟨by omega, by omega⟩ hn
  rw [hm]
  have hO := on_new hA (Nat.le_trans hb1.size hDB) (Nat.le_trans hb1.size hUB) (Nat.le_trans hb1.size hVB)
  have hm3 : m ≤ 300 := by omega
  have hbw := below2 hb1 hL
  have hUl := hA.hU.lt
  have hVl := hA.hV.lt
  have hmk := @mkBytes m (by omega)
  clear hb1 hm hA hDB hUB hVB hL
  go_wp2_with fail
  generalize hX : World.alloc w2 _ = X
  have hbX : Below w2.heap.size w2 X := by rw [← hX]; exact bal w2 _
  have bb : Blk X w2.heap.size (bytesV (List.replicate m 0)) 5 := by rw [← hX]; exact Blk.newA w2 _ rfl
  have hOX := hO.later hbX
  have hbX' := below2 hbw hbX
  have HN := hide (And.intro (show w2.heap.size ≠ U by omega) (And.intro (show w2.heap.size ≠ V by omega) hbw.size))
  have hBX := hbX'.size
  clear hX hbX hO hUl hVl hmk hbw
  generalize w2.heap.size = b at *
  go_loopw [9] (fun i wr => ∃ (k : Nat) (pv : Value), k ≤ l.length ∧ k ≤ 60 ∧ i = .int .i64 k ∧ OnDisk m w.heap.size wr D U V pv (runW m l k) ∧ Blk wr b (bytesV (runW m l k).vis) 5 ∧ Below w.heap.size w wr) (fun i _ => l.length - (intOf i).toNat)
  case atStart => exact ⟨0, _, by omega, by omega, rfl, hOX, bb, hbX'⟩
  case round =>
    obtain ⟨k, pv, hk, hk60, rfl, hO, bb, hbr⟩ := hrel
    have hlc3 : (l.length : Int) ≤ 9223372036854775807 := by omega
    by_cases hlt : k < l.length
    · by_cases h60 : k < 60
      · skip
        obtain ⟨i1, i2, bl, ol, rfl, cl0, cl1, cl2⟩ := HLW.out k hlt
        have HS := hide (show runW m l (k + 1) = stepW m (runW m l k) (l.getD k wp0) from rfl)
        have c0 := keep hbr cl0
        have c1 := keep hbr cl1
        have c2 := keep hbr cl2
        have HPL := hide (runW_pend m l k)
        have HFIT := hide (fit_in m (l.getD k wp0))
        have hfits := fits_any (l.getD k wp0) m wr i1 i2 (by omega)
        have hpo : Hid (∀ d, stepW m d (l.getD k wp0) = (if (l.getD k wp0).sync then syncD (putD d (offN m (l.getD k wp0)) (strN m (l.getD k wp0)).data.toList) else putD d (offN m (l.getD k wp0)) (strN m (l.getD k wp0)).data.toList)) := hide fun d => rfl
        generalize offN m (l.getD k wp0) = o at *
        generalize strN m (l.getD k wp0) = s at *
        generalize l.getD k wp0 = p at *
        generalize runW m l k = d at *
        obtain ⟨po, ps, py⟩ := p
        clear i1 i2 cl0 cl1 cl2
        have HF := hide hfits
        clear hfits
        go_wp2_with fail
        refine HF.out.mono ?_
        rintro e w3 ⟨rfl, hb3⟩
        have hO3 := hO.later hb3
        have hbr3 := below2 hbr hb3
        have bb3 := bb.later hb3
        clear hO bb hbr HF c0 c1 c2 hb3
        go_wp2_with fail
        generalize hX4 : World.alloc w3 _ = w4
        have hb4 : Below w3.heap.size w3 w4 := by rw [← hX4]; exact bal w3 _
        have bW : Blk w4 w3.heap.size [.int .i64 o, .string s, .bool py] 53 := by rw [← hX4]; exact Blk.newA w3 _ rfl
        have hO4 := hO3.later hb4
        have hbr4 := below2 hbr3 hb4
        have bb4 := bb3.later hb4
        have hput := put_any b o s d.vis m w4 bb4 (by rw [hO4.vis]; exact HFIT.out) (by rw [hO4.vis]; omega)
        rw [hO4.vis] at hput
        clear hX4 hb4 hO3 bb3 hbr3
        refine hput.mono ?_
        rintro e w5 ⟨rfl, bb5, hE5⟩
        have hN := HN.out
        have hO5 := hO4.eff hE5 (fun k hk e => off_set hO4.hA bb4 hN.1 hN.2.1 (by rw [← show k = b from e]; exact hk))
        have bW5 := bW.eff hE5 (fun e => bW.neT bb4 (by decide) e)
        have hbr5 := hbr4.trans (hE5.below hbr4.size (fun k hk => by rw [show k = b from hk]; exact hN.2.2))
        have hwr := write_on o s hO5 hbr5.size (by omega) HFIT.out (by have := HPL.out; omega)
        have hoff5 := off_set hO5.hA bb5 hN.1 hN.2.1
        have hoffW := off_typ hO5.hA bW5 (by decide) (by decide) (by decide)
        have b0 := bW5.cell 0 rfl
        have b1 := bW5.cell 1 rfl
        have HWR := hide hwr
        clear hput hN bb4 hO4 bW hbr4 hE5 hwr
        go_wp2_with fail
        refine HWR.out.mono ?_
        rintro e w6 ⟨rfl, pv6, hO6, hE6, hob6⟩
        have bb6 := bb5.eff hE6 hoff5
        have bW6 := bW5.eff hE6 hoffW
        have hbr6 := hbr5.trans (hE6.below hbr5.size hO5.low)
        have b2 := bW6.cell 2 rfl
        clear HWR b0 b1 hoff5 hoffW hE6 hbr5 bb5 bW5 hO5
        cases py
        · have HST : Hid (runW m l (k + 1) = putD d o s.data.toList) := hide (by rw [HS.out, hpo.out]; rfl)
          have HRD : Hid (Calls Try.prog 14 #[.pointer (some ⟨D, 0, none⟩), .int .i64 0, .int .i64 m] w6 (StrQ ⟨(splice d.vis o s.data.toList).toArray⟩ 0 w6)) := hide (read_all hO6 (by omega))
          have hconv : (convert 40 9 (.slice (some ⟨b, 0, none⟩) m m)).run Try.prog w6 = .ok (.string ⟨(splice d.vis o s.data.toList).toArray⟩) w6 := blk_str bb6 (hO6).vis
          generalize hR : splice d.vis o s.data.toList = R at HRD hconv
          clear hR
          go_wp2_with fail
          refine HRD.out.mono ?_
          rintro e w8 ⟨rfl, hw8⟩
          obtain rfl := hw8
          go_wp2_with fail
          go_roundw
          case rel => exact ⟨k + 1, _, by omega, by omega, by go_num, by rw [HST.out]; exact hO6, by rw [HST.out]; exact bb6, hbr6⟩
          case measure => simp [intOf]; omega
        · have hN := HN.out
          have hsy := sync_do hO6 hbr6.size
          have hoff6 := off_set hO6.hA bb6 hN.1 hN.2.1
          have HST : Hid (runW m l (k + 1) = syncD (putD d o s.data.toList)) := hide (by rw [HS.out, hpo.out]; rfl)
          have HSY := hide hsy
          clear hsy hN
          go_wp2_with fail
          refine HSY.out.mono ?_
          rintro e w7 ⟨rfl, pv7, hO7, hE7, hob7⟩
          have bb7 : Blk w7 b (bytesV (syncD (putD d o s.data.toList)).vis) 5 := bb6.eff hE7 hoff6
          have hbr7 := hbr6.trans (hE7.below hbr6.size hO6.low)
          clear HSY b2 hoff6 hE7 hbr6 bb6 bW6 hO6
          have HRD : Hid (Calls Try.prog 14 #[.pointer (some ⟨D, 0, none⟩), .int .i64 0, .int .i64 m] w7 (StrQ ⟨(splice d.vis o s.data.toList).toArray⟩ 0 w7)) := hide (read_all hO7 (by omega))
          have hconv : (convert 40 9 (.slice (some ⟨b, 0, none⟩) m m)).run Try.prog w7 = .ok (.string ⟨(splice d.vis o s.data.toList).toArray⟩) w7 := blk_str bb7 (hO7).vis
          generalize hR : splice d.vis o s.data.toList = R at HRD hconv
          clear hR
          go_wp2_with fail
          refine HRD.out.mono ?_
          rintro e w8 ⟨rfl, hw8⟩
          obtain rfl := hw8
          go_wp2_with fail
          go_roundw
          case rel => exact ⟨k + 1, _, by omega, by omega, by go_num, by rw [HST.out]; exact hO7, by rw [HST.out]; exact bb7, hbr7⟩
          case measure => simp [intOf]; omega
      · obtain rfl : k = 60 := by omega
        go_wp2_with fail
        go_ret
        exact ⟨rfl, hbr⟩
    · obtain rfl : k = l.length := by omega
      go_wp2_with fail
      go_ret
      exact ⟨rfl, hbr⟩
end Go.Proofs.Ytednelejpkchbaa
