/- The walk of DiskCut. Conditions: that integers are of 64 bits; how the list lies in memory. -/
import Derived.Test.YtednelejpkchbaaLkI
import Derived.Test.YtednelejpkchbaaLkG
namespace Go.Proofs.Ytednelejpkchbaa
open Go.RowKit

set_option maxRecDepth 20000 in
set_option maxHeartbeats 4000000 in
theorem cutl_any (size : Int) (cn : Int) (l : List WPar) (lv : Value) (w : World) (h1 : i64B size) (h2 : i64B cn) (hl : WParsIn w.cell? lv l) :
    Calls Try.prog 10 #[.int .i64 size, .int .i64 cn, lv] w (Ret (.bool true) w) := by
  obtain ⟨la, lc, rfl, hlc, hlc2, hlw⟩ := hl
  have HLW := hide hlw
  clear hlw
  obtain ⟨n0, hn0, hn0'⟩ : ∃ n0 : Nat, pickF size 100 = n0 ∧ n0 < 100 := ⟨(pickF size 100).toNat, by have := pickF_nonneg size (n := 100) (by decide); omega, by have := pickF_lt size (n := 100) (by decide); omega⟩
  have HPK := hide (fun W => pick_any size 100 W h1.1 h1.2 (by decide) (by decide))
  rw [hn0] at HPK
  clear hn0
  obtain ⟨c, hc0, hc20⟩ : ∃ c : Nat, pickF cn 20 = c ∧ c < 20 := ⟨(pickF cn 20).toNat, by have := pickF_nonneg cn (n := 20) (by decide); omega, by have := pickF_lt cn (n := 20) (by decide); omega⟩
  have HPC := hide (fun W => pick_any cn 20 W h2.1 h2.2 (by decide) (by decide))
  rw [hc0] at HPC
  clear hc0
  go_enter Try.func10, Try.ntmps10
  go_wp2_with fail
  refine (sane_any w).mono ?_
  rintro e w1 ⟨rfl, hb1⟩
  go_wp2_with fail
  refine (HPK.out w1).mono ?_
  rintro e w2 ⟨rfl, hw2⟩
  obtain rfl := hw2.symm
  go_wp2_with fail
  refine (HPC.out w1).mono ?_
  rintro e w2 ⟨rfl, hw2⟩
  obtain rfl := hw2.symm
  go_wp2_with fail
  refine (new_any (1 + (n0 : Int)) w1).mono ?_
  rintro e w2 (⟨hn, -, -⟩ | ⟨m, D, U, V, hm, hm1, hm2, rfl, hDB, hUB, hVB, hA, hL⟩)
  · exact absurd ⟨by omega, by omega⟩ hn
  rw [hm]
  have hO := on_new hA (Nat.le_trans hb1.size hDB) (Nat.le_trans hb1.size hUB) (Nat.le_trans hb1.size hVB)
  have hm3 : m ≤ 100 := by omega
  have hbw := below2 hb1 hL
  have hUl := hA.hU.lt
  have hVl := hA.hV.lt
  have hmk := @mkBytes m (by omega)
  clear hb1 hm hA hDB hUB hVB hL
  have hA0 := hO.any
  have hc1 := cut_w ((c : Int) + 5) hA0 rfl hbw.size (by omega)
  rw [decide_eq_false (show ¬ ((c : Int) + 5 = 0) by omega)] at hc1
  have HC1 := hide hc1
  clear hc1 hO
  go_wp2_with fail
  refine HC1.out.mono ?_
  rintro e w3 ⟨rfl, pv3, hA3, hE3, hob3⟩
  have hbw3 := hbw.trans (hE3.below hbw.size hA0.low)
  have hc2 := cut_w (c : Int) hA3 rfl hbw3.size (by omega)
  have HC2 := hide hc2
  have hsz3 := hE3.size
  clear hc2 hA0 hE3 hob3 hbw HC1
  go_wp2_with fail
  refine HC2.out.mono ?_
  rintro e w4 ⟨rfl, pv4, hA4, hE4, hob4⟩
  have hbw4 := hbw3.trans (hE4.below hbw3.size hA3.low)
  have e0 : (⟨decide ((c : Int) = 0), (c : Int), (disk0 m).dur, (disk0 m).vis, (disk0 m).pend⟩ : DiskD) = cutK m l c 0 := by
    unfold cutK
    rw [Nat.zero_min, Nat.sub_zero]
    have : decide ((c : Int) = 0) = decide (c ≤ 0) := by
      by_cases hh : c ≤ 0
      · rw [decide_eq_true hh, decide_eq_true (by omega)]
      · rw [decide_eq_false hh, decide_eq_false (by omega)]
    rw [this]; rfl
  have hA4' : AnyDisk m w.heap.size w4 D U V pv4 (cutK m l c 0) := by rw [← e0]; exact hA4
  have hsz4 := hE4.size
  clear hA3 hA4 hE4 hob4 hbw3 HC2 e0
  go_wp2_with fail
  generalize hX : World.alloc w4 _ = X
  have hbX : Below w4.heap.size w4 X := by rw [← hX]; exact bal w4 _
  have bb : Blk X w4.heap.size (bytesV (List.replicate m 0)) 5 := by rw [← hX]; exact Blk.newA w4 _ rfl
  have hAX := hA4'.later hbX
  have hbX' := below2 hbw4 hbX
  have HN := hide (And.intro (show w4.heap.size ≠ U by omega) (And.intro (show w4.heap.size ≠ V by omega) hbw4.size))
  have hBX := hbX'.size
  clear hX hbX hA4' hUl hVl hmk hbw4 hsz3 hsz4
  generalize w4.heap.size = b at *
  go_loopw [11, 12] (fun al i wr => ∃ (k : Nat) (pv : Value), k ≤ l.length ∧ k ≤ 40 ∧ i = .int .i64 k ∧ OwnI wr w.heap.size al (rangeI (min k c)) ∧ AnyDisk m w.heap.size wr D U V pv (cutK m l c k) ∧ Blk wr b (bytesV (runC m l (min k c)).vis) 5 ∧ Below w.heap.size w wr) (fun _ i _ => l.length - (intOf i).toNat)
  case atStart => exact ⟨0, _, by omega, by omega, rfl, by rw [Nat.zero_min]; exact OwnI.nil _ _, hAX, by rw [Nat.zero_min]; exact bb, hbX'⟩
  case round =>
    obtain ⟨k, pv, hk, hk60, rfl, hown, hA, bb, hbr⟩ := hrel
    have hlc3 : (l.length : Int) ≤ 9223372036854775807 := by omega
    by_cases hlt : k < l.length
    · by_cases h60 : k < 40
      · obtain ⟨i1, i2, bl, ol, rfl, cl0, cl1, cl2⟩ := HLW.out k hlt
        have c0 := keep hbr cl0
        have c1 := keep hbr cl1
        have c2 := keep hbr cl2
        have HFIT := hide (fit_in m (l.getD k wp0))
        have hfits := fits_any (l.getD k wp0) m wr i1 i2 (by omega)
        have HL := hide (fun h => cutK_live (n := m) (l := l) (c := c) (k := k) h)
        have HDD := hide (fun h => cutK_dead (n := m) (l := l) (c := c) (k := k) h)
        have HRC := hide (show runC m l (k + 1) = putD (runC m l k) (offN m (l.getD k wp0)) (strN m (l.getD k wp0)).data.toList from rfl)
        generalize offN m (l.getD k wp0) = o at *
        generalize strN m (l.getD k wp0) = s at *
        generalize l.getD k wp0 = p at *
        obtain ⟨po, ps, py⟩ := p
        clear i1 i2 cl0 cl1 cl2
        have HF := hide hfits
        clear hfits
        go_wp2_with fail
        refine HF.out.mono ?_
        rintro e w3 ⟨rfl, hb3⟩
        have hA3 := hA.later hb3
        have hbr3 := below2 hbr hb3
        have bb3 := bb.later hb3
        have hown3 := hown.later hb3
        clear hA hbr HF c0 c1 c2 hb3 bb hown
        go_wp2_with fail
        generalize hX4 : World.alloc w3 _ = w4
        have hb4 : Below w3.heap.size w3 w4 := by rw [← hX4]; exact bal w3 _
        have bW : Blk w4 w3.heap.size [.int .i64 o, .string s, .bool py] 53 := by rw [← hX4]; exact Blk.newA w3 _ rfl
        have hA4 := hA3.later hb4
        have hbr4 := below2 hbr3 hb4
        have bb4 := bb3.later hb4
        have hown4 := hown3.later hb4
        clear hX4 hb4 hA3 hbr3 bb3 hown3
        have b0 := bW.cell 0 rfl
        have b1 := bW.cell 1 rfl
        have hoffB := off_set hA4.hA bb4 HN.out.1 HN.out.2.1
        have hoffW := off_typ hA4.hA bW (by decide) (by decide) (by decide)
        have hoffO := own_off hA4.hA hown4
        by_cases hkc : k < c
        · have hpl : (cutK m l c k).pend.length = k := by show (runC m l (min k c)).pend.length = k; rw [runC_pend]; omega
          have hwr := write_w o s hA4 (by show decide (c ≤ k) = false; exact decide_eq_false (by omega)) hbr4.size (by omega) HFIT.out (by omega)
          rw [← HL.out hkc] at hwr
          have HWR := hide hwr
          have e1 : min k c = k := by omega
          have e2 : min (k + 1) c = k + 1 := by omega
          have E2 := hide e2
          have HSU := hide (rangeI_succ k)
          rw [e1] at bb4 hown4
          have hlen : (rangeI k).length < 1000000 := by rw [rangeI_len]; omega
          clear hpl hwr e1 e2
          go_wp2_with fail
          refine HWR.out.mono ?_
          rintro e w5 ⟨rfl, pv5, hA5, hE5, hob5⟩
          have bb5 := bb4.eff hE5 hoffB
          have bW5 := bW.eff hE5 hoffW
          have hown5 := hown4.eff hE5 (fun g hg h => hoffO g h hg.symm)
          have hbr5 := hbr4.trans (hE5.below hbr4.size hA4.low)
          have hvl : (runC m l k).vis.length = m := by
            have h := hA4.vis
            have e : (cutK m l c k).vis = (runC m l k).vis := by show (runC m l (min k c)).vis = _; rw [show min k c = k by omega]
            rw [e] at h; exact h
          have hput := put_any b o s (runC m l k).vis m w5 bb5 (by rw [hvl]; exact HFIT.out) (by rw [hvl]; omega)
          rw [hvl] at hput
          have HPU := hide hput
          clear b0 b1 hput hvl HWR hoffB hoffW hoffO bb4 bW hown4 hbr4 hE5 hA4
          have b0 := bW5.cell 0 rfl
          have b1 := bW5.cell 1 rfl
          have ekc : decide ((k : Int) < (c : Int)) = true := decide_eq_true (by omega)
          go_wp2_with fail
          refine HPU.out.mono ?_
          rintro e w6 ⟨rfl, bb6, hE6⟩
          have hN := HN.out
          have hA6 := hA5.eff hE6 (fun q hq e => off_set hA5.hA bb5 hN.1 hN.2.1 (by rw [← show q = b from e]; exact hq))
          have hown6 := hown5.eff hE6 (fun g hg e => hown5.neT bb5 (by decide) (by rw [hg, show g = b from e]))
          have hbr6 := hbr5.trans (hE6.below hbr5.size (fun q hq => by rw [show q = b from hq]; exact hN.2.2))
          have bb6' : Blk w6 b (bytesV (runC m l (k + 1)).vis) 5 := by rw [HRC.out]; exact bb6
          have hB6 := hbr6.size
          clear hN bb6 bb5 bW5 b0 b1 hown5 hbr5 hA5 HPU hE6 hob5
          go_wp2_with (at_builtin; refine app_intE rfl _ _ rfl w.heap.size _ _ rfl hown6 k rfl hlen hB6 ?_; intro v' w7 hown7 hE7 hob7)
          have hA7 := hA6.eff hE7 (own_off hA6.hA hown6)
          have bb7 := bb6'.eff hE7 (fun e => hown6.neT bb6' (by decide) e.symm)
          have hbr7 := hbr6.trans (hE7.below hB6 (fun q hq => (hown6.heap hq.symm).1))
          go_roundw
          case rel => exact ⟨k + 1, pv5, by omega, by omega, by go_num, by rw [E2.out, HSU.out]; exact hown7, hA7, by rw [E2.out]; exact bb7, hbr7⟩
          case measure => simp [intOf]; omega
        · have HWR := hide (write_dead o s hA4 (by show decide (c ≤ k) = true; exact decide_eq_true (by omega)) hbr4.size)
          have E1 : Hid (min (k + 1) c = min k c) := hide (by omega)
          have HD2 := hide (HDD.out (by omega))
          have ekc : decide ((k : Int) < (c : Int)) = false := decide_eq_false (by omega)
          go_wp2_with fail
          refine HWR.out.mono ?_
          rintro e w5 ⟨rfl, pv5, hA5, hE5, hob5⟩
          have bb5 := bb4.eff hE5 hoffB
          have hown5 := hown4.eff hE5 (fun g hg h => hoffO g h hg.symm)
          have hbr5 := hbr4.trans (hE5.below hbr4.size hA4.low)
          clear b0 b1 HWR hoffB hoffW hoffO bb4 bW hown4 hbr4 hE5 hA4
          go_wp2_with fail
          go_roundw
          case rel => exact ⟨k + 1, pv5, by omega, by omega, by go_num, by rw [E1.out]; exact hown5, by rw [HD2.out]; exact hA5, by rw [E1.out]; exact bb5, hbr5⟩
          case measure => simp [intOf]; omega
      · obtain rfl : k = 40 := by omega
        have hpl : (cutK m l c 40).pend.length = min 40 c := runC_pend _ _ _
        have hln : (rangeI (min 40 c)).length = min 40 c := rangeI_len _
        obtain ⟨aa, ac, eal⟩ := hown.form
        rw [hln] at eal
        have HVI : Hid ((cutK m l c 40).vis = replay (cutK m l c 40).dur (cutK m l c 40).pend) := hide (runC_vis m l (min 40 c))
        have HVB : Hid ((cutK m l c 40).vis = (runC m l (min 40 c)).vis) := hide rfl
        have hc : c ≤ 40 := by omega
        have e1 : min 40 c = c := Nat.min_eq_right hc
        have hoff : (cutK m l c 40).off = true := decide_eq_true hc
        rw [e1] at hown hln hpl bb eal
        subst eal
        rw [e1] at HVB
        clear e1 hc
        generalize cutK m l c 40 = d at hA hoff hpl HVI HVB
        have e9 : decide ((c : Int) < (c : Int)) = false := decide_eq_false (by omega)
        obtain ⟨pa, pc, rfl⟩ : ∃ a cc, pv = .slice a c cc := by
          rcases hA.hA.hP.form with ⟨rfl, e⟩ | ⟨g, cc, cur, e, -⟩
          · have : d.pend = [] := by simpa using e
            rw [this] at hpl
            exact ⟨none, 0, by rw [← hpl]; rfl⟩
          · exact ⟨some ⟨g, 0, none⟩, cc, by rw [← hpl]; simpa using e⟩
        have HRD := hide (read_off D U V _ d 0 0 wr hA.hA hoff)
        have HSY := hide (sync_dead hA hoff hbr.size)
        go_wp2_with fail
        refine HRD.out.mono ?_
        rintro e w3 ⟨rfl, hw3⟩
        obtain rfl := hw3
        go_wp2_with fail
        refine HSY.out.mono ?_
        rintro e w3 ⟨rfl, pv3, hA3, hE3, hob3⟩
        have bb3 := bb.eff hE3 (off_set hA.hA bb HN.out.1 HN.out.2.1)
        have hown3 := hown.eff hE3 (fun g hg h => own_off hA.hA hown g h hg.symm)
        have hbr3 := hbr.trans (hE3.below hbr.size hA.low)
        have HCU := hide (cut_dead 3 hA3 hoff hbr3.size)
        clear HRD HSY bb hown hbr hA hE3 hob3
        go_wp2_with fail
        refine HCU.out.mono ?_
        rintro e w4 ⟨rfl, pv4, hA4, hE4, hob4⟩
        have bb4 := bb3.eff hE4 (off_set hA3.hA bb3 HN.out.1 HN.out.2.1)
        have hown4 := hown3.eff hE4 (fun g hg h => own_off hA3.hA hown3 g h hg.symm)
        have hbr4 := hbr3.trans (hE4.below hbr3.size hA3.low)
        obtain ⟨pa4, pc4, rfl⟩ : ∃ a cc, pv4 = .slice a c cc := by
          rcases hA4.hA.hP.form with ⟨rfl, e⟩ | ⟨g, cc, cur, e, -⟩
          · have : d.pend = [] := by simpa using e
            rw [this] at hpl
            exact ⟨none, 0, by rw [← hpl]; rfl⟩
          · exact ⟨some ⟨g, 0, none⟩, cc, by rw [← hpl]; simpa using e⟩
        have hpe : Calls Try.prog 17 #[.pointer (some ⟨D, 0, none⟩)] w4 (NumQ c w4) := pending_any D w4 pa4 c pc4 (hA4.hA.hD.cell 4 rfl)
        have hsi : Calls Try.prog 16 #[.pointer (some ⟨D, 0, none⟩)] w4 (NumQ m w4) := size_any D w4 _ m _ (by have := hA4.hA.hD.cell 2 rfl; rw [hA4.dur] at this; exact this)
        have HPE := hide hpe
        have HSI := hide hsi
        have hcr := crash_w (K := rangeI c) (torn := -1) hA4 hbr4.size (by omega) (by omega) hown4.ints (by rw [rangeI_len]; omega) ⟨by decide, by decide⟩
        have hcd : crashD d (rangeI c) (-1) = ⟨false, 0, d.vis, d.vis, []⟩ := by unfold crashD; rw [← hpl, crash_all, ← HVI.out]
        rw [hcd] at hcr
        have HCR := hide hcr
        clear hpe hsi hcr hcd HCU bb3 hown3 hbr3 hA3 hE4 hob4
        go_wp2_with (first | (go_at_call 17; refine HPE.out.mono ?_; rintro e w9 ⟨rfl, rfl⟩) | (go_at_call 16; refine HSI.out.mono ?_; rintro e w9 ⟨rfl, rfl⟩))
        refine HCR.out.mono ?_
        rintro e w5 ⟨rfl, pv5, hO5, hE5, hob5⟩
        have bb5 := bb4.eff hE5 (off_set hA4.hA bb4 HN.out.1 HN.out.2.1)
        have hbr5 := hbr4.trans (hE5.below hbr4.size hA4.low)
        rw [← HVB.out] at bb5
        have hrd : Calls Try.prog 14 #[.pointer (some ⟨D, 0, none⟩), .int .i64 0, .int .i64 m] w5 (StrQ ⟨d.vis.toArray⟩ 0 w5) := read_all (d := ⟨false, 0, d.vis, d.vis, []⟩) hO5 (by omega)
        have HR5 := hide hrd
        have hconv := blk_str bb5 hO5.vis
        have hw5 := write_on 0 (ByteArray.mk #[120]) hO5 hbr5.size (by omega) (show 0 + 1 ≤ m by omega) (Nat.zero_lt_succ _)
        have HW5 := hide hw5
        clear hrd hw5 HCR HPE HSI bb4 hown4 hbr4 hA4 hE5 hob5
        go_wp2_with fail
        refine HR5.out.mono ?_
        rintro e w6 ⟨rfl, hw6⟩
        obtain rfl := hw6
        go_wp2_with fail
        refine HW5.out.mono ?_
        rintro e w6 ⟨rfl, pv6, hO6, hE6, hob6⟩
        have hbr6 := hbr5.trans (hE6.below hbr5.size hO5.low)
        have HS6 := hide (sync_do hO6 hbr6.size)
        go_wp2_with fail
        refine HS6.out.mono ?_
        rintro e w7 ⟨rfl, pv7, hO7, hE7, hob7⟩
        have hbr7 := hbr6.trans (hE7.below hbr6.size hO6.low)
        go_wp2_with fail
        go_ret
        exact ⟨rfl, hbr7⟩
    · obtain rfl : k = l.length := by omega
      have hpl : (cutK m l c l.length).pend.length = min l.length c := runC_pend _ _ _
      have hln : (rangeI (min l.length c)).length = min l.length c := rangeI_len _
      obtain ⟨aa, ac, eal⟩ := hown.form
      rw [hln] at eal
      have HVI : Hid ((cutK m l c l.length).vis = replay (cutK m l c l.length).dur (cutK m l c l.length).pend) := hide (runC_vis m l (min l.length c))
      have HVB : Hid ((cutK m l c l.length).vis = (runC m l (min l.length c)).vis) := hide rfl
      by_cases hc : c ≤ l.length
      · skip
        have e1 : min l.length c = c := Nat.min_eq_right hc
        have hoff : (cutK m l c l.length).off = true := decide_eq_true hc
        rw [e1] at hown hln hpl bb eal
        subst eal
        rw [e1] at HVB
        clear e1 hc
        generalize cutK m l c l.length = d at hA hoff hpl HVI HVB
        have e9 : decide ((c : Int) < (c : Int)) = false := decide_eq_false (by omega)
        obtain ⟨pa, pc, rfl⟩ : ∃ a cc, pv = .slice a c cc := by
          rcases hA.hA.hP.form with ⟨rfl, e⟩ | ⟨g, cc, cur, e, -⟩
          · have : d.pend = [] := by simpa using e
            rw [this] at hpl
            exact ⟨none, 0, by rw [← hpl]; rfl⟩
          · exact ⟨some ⟨g, 0, none⟩, cc, by rw [← hpl]; simpa using e⟩
        have HRD := hide (read_off D U V _ d 0 0 wr hA.hA hoff)
        have HSY := hide (sync_dead hA hoff hbr.size)
        go_wp2_with fail
        refine HRD.out.mono ?_
        rintro e w3 ⟨rfl, hw3⟩
        obtain rfl := hw3
        go_wp2_with fail
        refine HSY.out.mono ?_
        rintro e w3 ⟨rfl, pv3, hA3, hE3, hob3⟩
        have bb3 := bb.eff hE3 (off_set hA.hA bb HN.out.1 HN.out.2.1)
        have hown3 := hown.eff hE3 (fun g hg h => own_off hA.hA hown g h hg.symm)
        have hbr3 := hbr.trans (hE3.below hbr.size hA.low)
        have HCU := hide (cut_dead 3 hA3 hoff hbr3.size)
        clear HRD HSY bb hown hbr hA hE3 hob3
        go_wp2_with fail
        refine HCU.out.mono ?_
        rintro e w4 ⟨rfl, pv4, hA4, hE4, hob4⟩
        have bb4 := bb3.eff hE4 (off_set hA3.hA bb3 HN.out.1 HN.out.2.1)
        have hown4 := hown3.eff hE4 (fun g hg h => own_off hA3.hA hown3 g h hg.symm)
        have hbr4 := hbr3.trans (hE4.below hbr3.size hA3.low)
        obtain ⟨pa4, pc4, rfl⟩ : ∃ a cc, pv4 = .slice a c cc := by
          rcases hA4.hA.hP.form with ⟨rfl, e⟩ | ⟨g, cc, cur, e, -⟩
          · have : d.pend = [] := by simpa using e
            rw [this] at hpl
            exact ⟨none, 0, by rw [← hpl]; rfl⟩
          · exact ⟨some ⟨g, 0, none⟩, cc, by rw [← hpl]; simpa using e⟩
        have hpe : Calls Try.prog 17 #[.pointer (some ⟨D, 0, none⟩)] w4 (NumQ c w4) := pending_any D w4 pa4 c pc4 (hA4.hA.hD.cell 4 rfl)
        have hsi : Calls Try.prog 16 #[.pointer (some ⟨D, 0, none⟩)] w4 (NumQ m w4) := size_any D w4 _ m _ (by have := hA4.hA.hD.cell 2 rfl; rw [hA4.dur] at this; exact this)
        have HPE := hide hpe
        have HSI := hide hsi
        have hcr := crash_w (K := rangeI c) (torn := -1) hA4 hbr4.size (by omega) (by omega) hown4.ints (by rw [rangeI_len]; omega) ⟨by decide, by decide⟩
        have hcd : crashD d (rangeI c) (-1) = ⟨false, 0, d.vis, d.vis, []⟩ := by unfold crashD; rw [← hpl, crash_all, ← HVI.out]
        rw [hcd] at hcr
        have HCR := hide hcr
        clear hpe hsi hcr hcd HCU bb3 hown3 hbr3 hA3 hE4 hob4
        go_wp2_with (first | (go_at_call 17; refine HPE.out.mono ?_; rintro e w9 ⟨rfl, rfl⟩) | (go_at_call 16; refine HSI.out.mono ?_; rintro e w9 ⟨rfl, rfl⟩))
        refine HCR.out.mono ?_
        rintro e w5 ⟨rfl, pv5, hO5, hE5, hob5⟩
        have bb5 := bb4.eff hE5 (off_set hA4.hA bb4 HN.out.1 HN.out.2.1)
        have hbr5 := hbr4.trans (hE5.below hbr4.size hA4.low)
        rw [← HVB.out] at bb5
        have hrd : Calls Try.prog 14 #[.pointer (some ⟨D, 0, none⟩), .int .i64 0, .int .i64 m] w5 (StrQ ⟨d.vis.toArray⟩ 0 w5) := read_all (d := ⟨false, 0, d.vis, d.vis, []⟩) hO5 (by omega)
        have HR5 := hide hrd
        have hconv := blk_str bb5 hO5.vis
        have hw5 := write_on 0 (ByteArray.mk #[120]) hO5 hbr5.size (by omega) (show 0 + 1 ≤ m by omega) (Nat.zero_lt_succ _)
        have HW5 := hide hw5
        clear hrd hw5 HCR HPE HSI bb4 hown4 hbr4 hA4 hE5 hob5
        go_wp2_with fail
        refine HR5.out.mono ?_
        rintro e w6 ⟨rfl, hw6⟩
        obtain rfl := hw6
        go_wp2_with fail
        refine HW5.out.mono ?_
        rintro e w6 ⟨rfl, pv6, hO6, hE6, hob6⟩
        have hbr6 := hbr5.trans (hE6.below hbr5.size hO5.low)
        have HS6 := hide (sync_do hO6 hbr6.size)
        go_wp2_with fail
        refine HS6.out.mono ?_
        rintro e w7 ⟨rfl, pv7, hO7, hE7, hob7⟩
        have hbr7 := hbr6.trans (hE7.below hbr6.size hO6.low)
        go_wp2_with fail
        go_ret
        exact ⟨rfl, hbr7⟩
      · skip
        have hoff : (cutK m l c l.length).off = false := decide_eq_false hc
        have e1 : min l.length c < c := by omega
        have e2 : decide (((min l.length c : Nat) : Int) < (c : Int)) = true := decide_eq_true (by omega)
        generalize cutK m l c l.length = d at hA hoff hpl HVI HVB
        generalize min l.length c = q at *
        subst eal
        have HSY := hide (sync_w hA hoff hbr.size)
        go_wp2_with fail
        refine HSY.out.mono ?_
        rintro e w3 ⟨rfl, pv3, hA3, hE3, hob3⟩
        have hbr3 := hbr.trans (hE3.below hbr.size hA.low)
        go_wp2_with fail
        go_ret
        exact ⟨rfl, hbr3⟩
end Go.Proofs.Ytednelejpkchbaa
