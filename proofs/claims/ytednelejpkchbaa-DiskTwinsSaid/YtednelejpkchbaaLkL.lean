/- The walk of DiskTwins. Conditions: that integers are of 64 bits; how the list lies in memory. -/
import Derived.Test.YtednelejpkchbaaLkK
import Derived.Test.YtednelejpkchbaaRegM
namespace Go.Proofs.Ytednelejpkchbaa
open Go.RowKit

theorem odd_yes {k : Nat} (h : k % 2 = 1) : ((k : Int) % 2 == 1) = true := by rw [beq_iff_eq]; omega
theorem odd_no {k : Nat} (h : ¬ k % 2 = 1) : ((k : Int) % 2 == 1) = false := by rw [beq_eq_false_iff_ne]; omega
set_option maxRecDepth 20000 in
set_option maxHeartbeats 4000000 in
theorem twins_any (size : Int) (l : List WPar) (lv : Value) (w : World) (h1 : i64B size) (hl : WParsIn w.cell? lv l) :
    Calls Try.prog 11 #[.int .i64 size, lv] w (Ret (.bool true) w) := by
  obtain ⟨la, lc, rfl, hlc, hlc2, hlw⟩ := hl
  have HLW := hide hlw
  clear hlw
  obtain ⟨n0, hn0, hn0'⟩ : ∃ n0 : Nat, pickF size 100 = n0 ∧ n0 < 100 := ⟨(pickF size 100).toNat, by have := pickF_nonneg size (n := 100) (by decide); omega, by have := pickF_lt size (n := 100) (by decide); omega⟩
  have HPK := hide (fun W => pick_any size 100 W h1.1 h1.2 (by decide) (by decide))
  rw [hn0] at HPK
  clear hn0
  go_enter Try.func11, Try.ntmps11
  go_wp2_with fail
  refine (sane_any w).mono ?_
  rintro e w1 ⟨rfl, hb1⟩
  go_wp2_with fail
  refine (HPK.out w1).mono ?_
  rintro e w2 ⟨rfl, hw2⟩
  obtain rfl := hw2.symm
  go_wp2_with fail
  refine (new_any (1 + (n0 : Int)) w1).mono ?_
  rintro e w2 (⟨hn, -, -⟩ | ⟨m, D', U', V', hm, hm1, hm2, rfl, hDB, hUB, hVB, hA, hL⟩)
  · exact absurd ⟨by omega, by omega⟩ hn
  rw [hm]
  obtain ⟨kc, rfl, rfl, rfl⟩ : ∃ k : Dk, k.D = D' ∧ k.U = U' ∧ k.V = V' := ⟨⟨D', U', V'⟩, rfl, rfl, rfl⟩
  have hOc : kc.on m w.heap.size w2 _ _ := on_new hA (Nat.le_trans hb1.size hDB) (Nat.le_trans hb1.size hUB) (Nat.le_trans hb1.size hVB)
  have hm3 : m ≤ 100 := by omega
  have hbw := below2 hb1 hL
  clear hb1 hm hA hDB hUB hVB hL
  go_wp2_with fail
  refine (new_any (m : Int) w2).mono ?_
  rintro e w3 (⟨hn, -, -⟩ | ⟨m', D', U', V', hm, -, -, rfl, hDB, hUB, hVB, hA, hL⟩)
  · exact absurd ⟨by omega, by omega⟩ hn
  obtain rfl : m = m' := by omega
  obtain ⟨kd, rfl, rfl, rfl⟩ : ∃ k : Dk, k.D = D' ∧ k.U = U' ∧ k.V = V' := ⟨⟨D', U', V'⟩, rfl, rfl, rfl⟩
  have hOd : (kd).on m w.heap.size w3 _ _ := on_new hA (Nat.le_trans hbw.size hDB) (Nat.le_trans hbw.size hUB) (Nat.le_trans hbw.size hVB)
  have hcd := new_apart hOc hDB hUB hVB
  have hOc3 : kc.on m w.heap.size w3 _ _ := OnDisk.later hOc hL
  have hbw3 := below2 hbw hL
  clear hm hA hDB hUB hVB hL hOc hbw
  have hbw := hbw3
  go_wp2_with fail
  refine (new_any (m : Int) w3).mono ?_
  rintro e w4 (⟨hn, -, -⟩ | ⟨m', D', U', V', hm, -, -, rfl, hDB, hUB, hVB, hA, hL⟩)
  · exact absurd ⟨by omega, by omega⟩ hn
  obtain rfl : m = m' := by omega
  obtain ⟨ka, rfl, rfl, rfl⟩ : ∃ k : Dk, k.D = D' ∧ k.U = U' ∧ k.V = V' := ⟨⟨D', U', V'⟩, rfl, rfl, rfl⟩
  have hOa : (ka).on m w.heap.size w4 _ _ := on_new hA (Nat.le_trans hbw.size hDB) (Nat.le_trans hbw.size hUB) (Nat.le_trans hbw.size hVB)
  have hca := new_apart hOc3 hDB hUB hVB
  have hda := new_apart hOd hDB hUB hVB
  have hT : Trio m w.heap.size w4 kc ka kd (.slice none 0 0) (.slice none 0 0) (.slice none 0 0) (disk0 m) (disk0 m) (disk0 m) := ⟨OnDisk.later hOc3 hL, hOa, OnDisk.later hOd hL, hca, hcd, fun x h1 h2 => hda x h2 h1⟩
  have hbw4 := below2 hbw3 hL
  clear hm hA hDB hUB hVB hL hOc3 hOd hOa hca hda hcd hbw hbw3
  go_wp2_with fail
  go_loopw [12] (fun i wr => ∃ (k : Nat) (pc pa pd : Value) (d e : DiskD), k ≤ l.length ∧ k ≤ 30 ∧ i = .int .i64 k ∧ Trio m w.heap.size wr kc ka kd pc pa pd d d e ∧ Hid (d.pend.length ≤ k ∧ e.pend.length ≤ k) ∧ Below w.heap.size w wr) (fun i _ => l.length - (intOf i).toNat)
  case atStart => exact ⟨0, _, _, _, _, _, by omega, by omega, rfl, hT, hide ⟨Nat.le_refl _, Nat.le_refl _⟩, hbw4⟩
  case round =>
    obtain ⟨k, pc, pa, pd, d, e, hk, hk30, rfl, hT, HPD, hbr⟩ := hrel
    have hlc3 : (l.length : Int) ≤ 9223372036854775807 := by omega
    by_cases hlt : k < l.length
    · by_cases h60 : k < 30
      · obtain ⟨i1, i2, bl, ol, rfl, cl0, cl1, cl2⟩ := HLW.out k hlt
        have c0 := keep hbr cl0
        have c1 := keep hbr cl1
        have c2 := keep hbr cl2
        have HFIT := hide (fit_in m (l.getD k wp0))
        have hfits := fits_any (l.getD k wp0) m wr i1 i2 (by omega)
        generalize offN m (l.getD k wp0) = o at *
        generalize strN m (l.getD k wp0) = s at *
        generalize l.getD k wp0 = p at *
        obtain ⟨po, ps, py⟩ := p
        clear i1 i2 cl0 cl1 cl2
        have HF := hide hfits
        clear hfits
        go_wp2_with fail
        refine HF.out.mono ?_
        rintro e w3 ⟨rfl, hb3⟩
        have hT3 := hT.later hb3
        have hbr3 := below2 hbr hb3
        clear hT hbr HF c0 c1 c2 hb3
        have hom : (o : Int) ≤ 100 := by have := HFIT.out; omega
        by_cases hodd : k % 2 = 1
        · have eo := odd_yes hodd
          clear hodd
          go_wp2_with fail
          generalize hX4 : World.alloc w3 _ = w4
          have hb4 : Below w3.heap.size w3 w4 := by rw [← hX4]; exact bal w3 _
          have bW : Blk w4 w3.heap.size [.int .i64 o, .string s, .bool py] 53 := by rw [← hX4]; exact Blk.newA w3 _ rfl
          have hT4 := hT3.later hb4
          have hbr4 := below2 hbr3 hb4
          clear hX4 hb4 hT3 hbr3
          have HWR := hide (write_on o s hT4.A3 hbr4.size (by omega) HFIT.out (by have := HPD.out; omega))
          have hoffW := off_typ hT4.A3.hA bW (by decide) (by decide) (by decide)
          have b0 := bW.cell 0 rfl
          have b1 := bW.cell 1 rfl
          go_wp2_with fail
          refine HWR.out.mono ?_
          rintro e5 w5 ⟨rfl, pv5, hO5, hE5, hob5⟩
          have hT5 := (hT4.rot.rot.step hO5 hE5 hob5).rot
          have bW5 := bW.eff hE5 hoffW
          have hbr5 := hbr4.trans (hE5.below hbr4.size hT4.A3.low)
          clear b0 b1 HWR hoffW bW hO5 hE5 hT4 hob5 hbr4
          have b0 := bW5.cell 0 rfl
          have b2 := bW5.cell 2 rfl
          cases py
          · skip
            have hcr := crash_do (K := []) (kv := .slice none 0 0) (torn := 1) hT5.A3 hbr5.size (by omega) (by have := HPD.out; simp [putD, syncD]; try omega) (IntsIn.nil _) (by decide) ⟨by decide, by decide⟩
            have HCR := hide hcr
            clear hcr
            by_cases h7 : o % 7 = 3
            · have e7 : ((o : Int) % 7 == 3) = true := by rw [beq_iff_eq]; omega
              go_wp2_with fail
              refine HCR.out.mono ?_
              rintro e w9 ⟨rfl, pv9, hO9, hE9, hob9⟩
              have hT9 := (hT5.rot.rot.step hO9 hE9 hob9).rot
              have hbr9 := hbr5.trans (hE9.below hbr5.size hT5.A3.low)
              go_wp2_with fail
              go_roundw
              case rel => exact ⟨k + 1, _, _, _, _, _, by omega, by omega, by go_num, hT9, hide ⟨by have := HPD.out; omega, by simp [crashD]⟩, hbr9⟩
              case measure => simp [intOf]; omega
            · have e7 : ((o : Int) % 7 == 3) = false := by rw [beq_eq_false_iff_ne]; omega
              go_wp2_with fail
              go_roundw
              case rel => exact ⟨k + 1, _, _, _, _, _, by omega, by omega, by go_num, hT5, hide ⟨by have := HPD.out; omega, by have := HPD.out; simp [putD, syncD]; try omega⟩, hbr5⟩
              case measure => simp [intOf]; omega
          · have HSY := hide (sync_do hT5.A3 hbr5.size)
            have hoffW := off_typ hT5.A3.hA bW5 (by decide) (by decide) (by decide)
            go_wp2_with fail
            refine HSY.out.mono ?_
            rintro e6 w6 ⟨rfl, pv6, hO6, hE6, hob6⟩
            have hT6 := (hT5.rot.rot.step hO6 hE6 hob6).rot
            have bW6 := bW5.eff hE6 hoffW
            have hbr6 := hbr5.trans (hE6.below hbr5.size hT5.A3.low)
            clear b0 b2 HSY hoffW bW5 hO6 hE6 hT5 hob6 hbr5
            have b0 := bW6.cell 0 rfl
            have hcr := crash_do (K := []) (kv := .slice none 0 0) (torn := 1) hT6.A3 hbr6.size (by omega) (by have := HPD.out; simp [putD, syncD]; try omega) (IntsIn.nil _) (by decide) ⟨by decide, by decide⟩
            have HCR := hide hcr
            clear hcr
            by_cases h7 : o % 7 = 3
            · have e7 : ((o : Int) % 7 == 3) = true := by rw [beq_iff_eq]; omega
              go_wp2_with fail
              refine HCR.out.mono ?_
              rintro e w9 ⟨rfl, pv9, hO9, hE9, hob9⟩
              have hT9 := (hT6.rot.rot.step hO9 hE9 hob9).rot
              have hbr9 := hbr6.trans (hE9.below hbr6.size hT6.A3.low)
              go_wp2_with fail
              go_roundw
              case rel => exact ⟨k + 1, _, _, _, _, _, by omega, by omega, by go_num, hT9, hide ⟨by have := HPD.out; omega, by simp [crashD]⟩, hbr9⟩
              case measure => simp [intOf]; omega
            · have e7 : ((o : Int) % 7 == 3) = false := by rw [beq_eq_false_iff_ne]; omega
              go_wp2_with fail
              go_roundw
              case rel => exact ⟨k + 1, _, _, _, _, _, by omega, by omega, by go_num, hT6, hide ⟨by have := HPD.out; omega, by have := HPD.out; simp [putD, syncD]; try omega⟩, hbr6⟩
              case measure => simp [intOf]; omega
        · have eo := odd_no hodd
          clear hodd
          go_wp2_with fail
          generalize hX4 : World.alloc w3 _ = w4
          have hb4 : Below w3.heap.size w3 w4 := by rw [← hX4]; exact bal w3 _
          have bW : Blk w4 w3.heap.size [.int .i64 o, .string s, .bool py] 53 := by rw [← hX4]; exact Blk.newA w3 _ rfl
          have hT4 := hT3.later hb4
          have hbr4 := below2 hbr3 hb4
          clear hX4 hb4 hT3 hbr3
          cases py
          · skip
            refine wp_region_inv [some 93, some 94, some 95, some 96, some 97, some 98, some 99, some 100, some 101, some 102, some 103, some 104, some 105, some 106, some 107, some 108, some 109, some 110, some 111, some 112, some 113, some 114, some 115, some 116] (fun L vs W => match vs with | [x0, x1, x2, x3, x4, x5, x6, x7, x8, x9, x10, x11, x12, x13, x14, x15, x16, x17, x18, x19, x20, x21, x22, x23] => (TwG m w kc ka kd pd d e o s w3.heap.size [.int .i64 o, .string s, .bool false] (L 5) false (L 11) false W) ∧ (L 0 = true → x0 = .pointer (some ⟨kc.D, 0, none⟩)) ∧ (L 1 = true → x1 = .pointer (some ⟨w3.heap.size, 0, none⟩)) ∧ (L 2 = true → x2 = .int .i64 o) ∧ (L 3 = true → x3 = .pointer (some ⟨w3.heap.size, 1, none⟩)) ∧ (L 4 = true → x4 = .string s) ∧ (L 5 = true → x5 = .int .i64 0) ∧ (L 6 = true → x6 = .pointer (some ⟨ka.D, 0, none⟩)) ∧ (L 7 = true → x7 = .pointer (some ⟨w3.heap.size, 0, none⟩)) ∧ (L 8 = true → x8 = .int .i64 o) ∧ (L 9 = true → x9 = .pointer (some ⟨w3.heap.size, 1, none⟩)) ∧ (L 10 = true → x10 = .string s) ∧ (L 11 = true → L 5 = true ∧ x11 = .int .i64 0) ∧ (L 12 = true → L 11 = true ∧ L 5 = true ∧ x12 = .bool false) ∧ (L 13 = true → L 11 = true ∧ L 5 = true ∧ x13 = .bool false) ∧ (L 14 = true → L 11 = true ∧ L 5 = true ∧ x14 = .pointer (some ⟨w3.heap.size, 2, none⟩)) ∧ (L 15 = true → L 11 = true ∧ L 5 = true ∧ x15 = .bool false) ∧ (L 16 = true → L 11 = true ∧ L 5 = true ∧ x16 = .bool false) ∧ (L 17 = true → x17 = undef) ∧ (L 18 = true → x18 = undef) ∧ (L 19 = true → x19 = undef) ∧ (L 20 = true → x20 = undef) ∧ (L 21 = true → x21 = undef) ∧ (L 22 = true → x22 = .bool false) ∧ (L 23 = true → x23 = .bool false) | _ => False) [_, _, _, _, _, _, _, _, _, _, _, _, _, _, _, _, _, _, _, _, _, _, _, _] (by kernel_rfl) (by kernel_rfl) rfl (by simp only [puts, Act.put, List.setIfInBounds_toArray, List.set_cons_zero, List.set_cons_succ] <;> rfl) ?_ ?_ ?_
            · exact ⟨TwG.drew ⟨pc, pa, hT4, bW, hbr4⟩, (fun h => by cases h), (fun h => by cases h), (fun h => by cases h), (fun h => by cases h), (fun h => by cases h), (fun h => by cases h), (fun h => by cases h), (fun h => by cases h), (fun h => by cases h), (fun h => by cases h), (fun h => by cases h), (fun h => by cases h), (fun h => by cases h), (fun h => by cases h), (fun h => by cases h), (fun h => by cases h), (fun h => by cases h), (fun h => by cases h), (fun h => by cases h), (fun h => by cases h), (fun h => by cases h), (fun h => by cases h), (fun h => by cases h), (fun h => by cases h)⟩
            · refine ⟨?_, ?_, ?_, ?_, ?_, ?_, ?_, ?_, ?_, ?_, ?_, ?_, ?_, ?_, ?_, ?_, ?_, ?_, ?_, ?_, ?_, ?_, ?_, ?_, trivial⟩
              · intro L vs W hlen hL hD hI K hK
                obtain ⟨x0, x1, x2, x3, x4, x5, x6, x7, x8, x9, x10, x11, x12, x13, x14, x15, x16, x17, x18, x19, x20, x21, x22, x23, rfl⟩ := len24 hlen
                have hG := hI.1
                replace hI := hI.2
                have f0 := hide hI.1
                replace hI := hI.2
                have f1 := hide hI.1
                replace hI := hI.2
                have f2 := hide hI.1
                replace hI := hI.2
                have f3 := hide hI.1
                replace hI := hI.2
                have f4 := hide hI.1
                replace hI := hI.2
                have f5 := hide hI.1
                replace hI := hI.2
                have f6 := hide hI.1
                replace hI := hI.2
                have f7 := hide hI.1
                replace hI := hI.2
                have f8 := hide hI.1
                replace hI := hI.2
                have f9 := hide hI.1
                replace hI := hI.2
                have f10 := hide hI.1
                replace hI := hI.2
                have f11 := hide hI.1
                replace hI := hI.2
                have f12 := hide hI.1
                replace hI := hI.2
                have f13 := hide hI.1
                replace hI := hI.2
                have f14 := hide hI.1
                replace hI := hI.2
                have f15 := hide hI.1
                replace hI := hI.2
                have f16 := hide hI.1
                replace hI := hI.2
                have f17 := hide hI.1
                replace hI := hI.2
                have f18 := hide hI.1
                replace hI := hI.2
                have f19 := hide hI.1
                replace hI := hI.2
                have f20 := hide hI.1
                replace hI := hI.2
                have f21 := hide hI.1
                replace hI := hI.2
                have f22 := hide hI.1
                replace hI := hI.2
                have f23 := hide hI
                clear hI
                have b0 := hG.cell 0 rfl
                have b1 := hG.cell 1 rfl
                have b2 := hG.cell 2 rfl
                try simp only [puts, Act.put, List.setIfInBounds_toArray, List.set_cons_zero, List.set_cons_succ]
                try go_simp
                exact hK.out _ _ _ (by simp only [puts, Act.put, List.setIfInBounds_toArray, List.set_cons_zero, List.set_cons_succ] <;> rfl) ⟨hG, (fun _ => rfl), (fun h => f1.out h), (fun h => f2.out h), (fun h => f3.out h), (fun h => f4.out h), (fun h => f5.out h), (fun h => f6.out h), (fun h => f7.out h), (fun h => f8.out h), (fun h => f9.out h), (fun h => f10.out h), (fun h => f11.out h), (fun h => f12.out h), (fun h => f13.out h), (fun h => f14.out h), (fun h => f15.out h), (fun h => f16.out h), (fun h => f17.out h), (fun h => f18.out h), (fun h => f19.out h), (fun h => f20.out h), (fun h => f21.out h), (fun h => f22.out h), (fun h => f23.out h)⟩
              · intro L vs W hlen hL hD hI K hK
                obtain ⟨x0, x1, x2, x3, x4, x5, x6, x7, x8, x9, x10, x11, x12, x13, x14, x15, x16, x17, x18, x19, x20, x21, x22, x23, rfl⟩ := len24 hlen
                have hG := hI.1
                replace hI := hI.2
                have f0 := hide hI.1
                replace hI := hI.2
                have f1 := hide hI.1
                replace hI := hI.2
                have f2 := hide hI.1
                replace hI := hI.2
                have f3 := hide hI.1
                replace hI := hI.2
                have f4 := hide hI.1
                replace hI := hI.2
                have f5 := hide hI.1
                replace hI := hI.2
                have f6 := hide hI.1
                replace hI := hI.2
                have f7 := hide hI.1
                replace hI := hI.2
                have f8 := hide hI.1
                replace hI := hI.2
                have f9 := hide hI.1
                replace hI := hI.2
                have f10 := hide hI.1
                replace hI := hI.2
                have f11 := hide hI.1
                replace hI := hI.2
                have f12 := hide hI.1
                replace hI := hI.2
                have f13 := hide hI.1
                replace hI := hI.2
                have f14 := hide hI.1
                replace hI := hI.2
                have f15 := hide hI.1
                replace hI := hI.2
                have f16 := hide hI.1
                replace hI := hI.2
                have f17 := hide hI.1
                replace hI := hI.2
                have f18 := hide hI.1
                replace hI := hI.2
                have f19 := hide hI.1
                replace hI := hI.2
                have f20 := hide hI.1
                replace hI := hI.2
                have f21 := hide hI.1
                replace hI := hI.2
                have f22 := hide hI.1
                replace hI := hI.2
                have f23 := hide hI
                clear hI
                have b0 := hG.cell 0 rfl
                have b1 := hG.cell 1 rfl
                have b2 := hG.cell 2 rfl
                try simp only [puts, Act.put, List.setIfInBounds_toArray, List.set_cons_zero, List.set_cons_succ]
                try go_simp
                exact hK.out _ _ _ (by simp only [puts, Act.put, List.setIfInBounds_toArray, List.set_cons_zero, List.set_cons_succ] <;> rfl) ⟨hG, (fun h => f0.out h), (fun _ => rfl), (fun h => f2.out h), (fun h => f3.out h), (fun h => f4.out h), (fun h => f5.out h), (fun h => f6.out h), (fun h => f7.out h), (fun h => f8.out h), (fun h => f9.out h), (fun h => f10.out h), (fun h => f11.out h), (fun h => f12.out h), (fun h => f13.out h), (fun h => f14.out h), (fun h => f15.out h), (fun h => f16.out h), (fun h => f17.out h), (fun h => f18.out h), (fun h => f19.out h), (fun h => f20.out h), (fun h => f21.out h), (fun h => f22.out h), (fun h => f23.out h)⟩
              · intro L vs W hlen hL hD hI K hK
                obtain ⟨x0, x1, x2, x3, x4, x5, x6, x7, x8, x9, x10, x11, x12, x13, x14, x15, x16, x17, x18, x19, x20, x21, x22, x23, rfl⟩ := len24 hlen
                have hG := hI.1
                replace hI := hI.2
                have f0 := hide hI.1
                replace hI := hI.2
                have f1 := hide hI.1
                replace hI := hI.2
                have f2 := hide hI.1
                replace hI := hI.2
                have f3 := hide hI.1
                replace hI := hI.2
                have f4 := hide hI.1
                replace hI := hI.2
                have f5 := hide hI.1
                replace hI := hI.2
                have f6 := hide hI.1
                replace hI := hI.2
                have f7 := hide hI.1
                replace hI := hI.2
                have f8 := hide hI.1
                replace hI := hI.2
                have f9 := hide hI.1
                replace hI := hI.2
                have f10 := hide hI.1
                replace hI := hI.2
                have f11 := hide hI.1
                replace hI := hI.2
                have f12 := hide hI.1
                replace hI := hI.2
                have f13 := hide hI.1
                replace hI := hI.2
                have f14 := hide hI.1
                replace hI := hI.2
                have f15 := hide hI.1
                replace hI := hI.2
                have f16 := hide hI.1
                replace hI := hI.2
                have f17 := hide hI.1
                replace hI := hI.2
                have f18 := hide hI.1
                replace hI := hI.2
                have f19 := hide hI.1
                replace hI := hI.2
                have f20 := hide hI.1
                replace hI := hI.2
                have f21 := hide hI.1
                replace hI := hI.2
                have f22 := hide hI.1
                replace hI := hI.2
                have f23 := hide hI
                clear hI
                have b0 := hG.cell 0 rfl
                have b1 := hG.cell 1 rfl
                have b2 := hG.cell 2 rfl
                obtain rfl := f1.out (hD.on 1 (by kernel_rfl))
                try simp only [puts, Act.put, List.setIfInBounds_toArray, List.set_cons_zero, List.set_cons_succ]
                try go_simp
                exact hK.out _ _ _ (by simp only [puts, Act.put, List.setIfInBounds_toArray, List.set_cons_zero, List.set_cons_succ] <;> rfl) ⟨hG, (fun h => f0.out h), (fun h => f1.out h), (fun _ => rfl), (fun h => f3.out h), (fun h => f4.out h), (fun h => f5.out h), (fun h => f6.out h), (fun h => f7.out h), (fun h => f8.out h), (fun h => f9.out h), (fun h => f10.out h), (fun h => f11.out h), (fun h => f12.out h), (fun h => f13.out h), (fun h => f14.out h), (fun h => f15.out h), (fun h => f16.out h), (fun h => f17.out h), (fun h => f18.out h), (fun h => f19.out h), (fun h => f20.out h), (fun h => f21.out h), (fun h => f22.out h), (fun h => f23.out h)⟩
              · intro L vs W hlen hL hD hI K hK
                obtain ⟨x0, x1, x2, x3, x4, x5, x6, x7, x8, x9, x10, x11, x12, x13, x14, x15, x16, x17, x18, x19, x20, x21, x22, x23, rfl⟩ := len24 hlen
                have hG := hI.1
                replace hI := hI.2
                have f0 := hide hI.1
                replace hI := hI.2
                have f1 := hide hI.1
                replace hI := hI.2
                have f2 := hide hI.1
                replace hI := hI.2
                have f3 := hide hI.1
                replace hI := hI.2
                have f4 := hide hI.1
                replace hI := hI.2
                have f5 := hide hI.1
                replace hI := hI.2
                have f6 := hide hI.1
                replace hI := hI.2
                have f7 := hide hI.1
                replace hI := hI.2
                have f8 := hide hI.1
                replace hI := hI.2
                have f9 := hide hI.1
                replace hI := hI.2
                have f10 := hide hI.1
                replace hI := hI.2
                have f11 := hide hI.1
                replace hI := hI.2
                have f12 := hide hI.1
                replace hI := hI.2
                have f13 := hide hI.1
                replace hI := hI.2
                have f14 := hide hI.1
                replace hI := hI.2
                have f15 := hide hI.1
                replace hI := hI.2
                have f16 := hide hI.1
                replace hI := hI.2
                have f17 := hide hI.1
                replace hI := hI.2
                have f18 := hide hI.1
                replace hI := hI.2
                have f19 := hide hI.1
                replace hI := hI.2
                have f20 := hide hI.1
                replace hI := hI.2
                have f21 := hide hI.1
                replace hI := hI.2
                have f22 := hide hI.1
                replace hI := hI.2
                have f23 := hide hI
                clear hI
                have b0 := hG.cell 0 rfl
                have b1 := hG.cell 1 rfl
                have b2 := hG.cell 2 rfl
                try simp only [puts, Act.put, List.setIfInBounds_toArray, List.set_cons_zero, List.set_cons_succ]
                try go_simp
                exact hK.out _ _ _ (by simp only [puts, Act.put, List.setIfInBounds_toArray, List.set_cons_zero, List.set_cons_succ] <;> rfl) ⟨hG, (fun h => f0.out h), (fun h => f1.out h), (fun h => f2.out h), (fun _ => rfl), (fun h => f4.out h), (fun h => f5.out h), (fun h => f6.out h), (fun h => f7.out h), (fun h => f8.out h), (fun h => f9.out h), (fun h => f10.out h), (fun h => f11.out h), (fun h => f12.out h), (fun h => f13.out h), (fun h => f14.out h), (fun h => f15.out h), (fun h => f16.out h), (fun h => f17.out h), (fun h => f18.out h), (fun h => f19.out h), (fun h => f20.out h), (fun h => f21.out h), (fun h => f22.out h), (fun h => f23.out h)⟩
              · intro L vs W hlen hL hD hI K hK
                obtain ⟨x0, x1, x2, x3, x4, x5, x6, x7, x8, x9, x10, x11, x12, x13, x14, x15, x16, x17, x18, x19, x20, x21, x22, x23, rfl⟩ := len24 hlen
                have hG := hI.1
                replace hI := hI.2
                have f0 := hide hI.1
                replace hI := hI.2
                have f1 := hide hI.1
                replace hI := hI.2
                have f2 := hide hI.1
                replace hI := hI.2
                have f3 := hide hI.1
                replace hI := hI.2
                have f4 := hide hI.1
                replace hI := hI.2
                have f5 := hide hI.1
                replace hI := hI.2
                have f6 := hide hI.1
                replace hI := hI.2
                have f7 := hide hI.1
                replace hI := hI.2
                have f8 := hide hI.1
                replace hI := hI.2
                have f9 := hide hI.1
                replace hI := hI.2
                have f10 := hide hI.1
                replace hI := hI.2
                have f11 := hide hI.1
                replace hI := hI.2
                have f12 := hide hI.1
                replace hI := hI.2
                have f13 := hide hI.1
                replace hI := hI.2
                have f14 := hide hI.1
                replace hI := hI.2
                have f15 := hide hI.1
                replace hI := hI.2
                have f16 := hide hI.1
                replace hI := hI.2
                have f17 := hide hI.1
                replace hI := hI.2
                have f18 := hide hI.1
                replace hI := hI.2
                have f19 := hide hI.1
                replace hI := hI.2
                have f20 := hide hI.1
                replace hI := hI.2
                have f21 := hide hI.1
                replace hI := hI.2
                have f22 := hide hI.1
                replace hI := hI.2
                have f23 := hide hI
                clear hI
                have b0 := hG.cell 0 rfl
                have b1 := hG.cell 1 rfl
                have b2 := hG.cell 2 rfl
                obtain rfl := f3.out (hD.on 3 (by kernel_rfl))
                try simp only [puts, Act.put, List.setIfInBounds_toArray, List.set_cons_zero, List.set_cons_succ]
                try go_simp
                exact hK.out _ _ _ (by simp only [puts, Act.put, List.setIfInBounds_toArray, List.set_cons_zero, List.set_cons_succ] <;> rfl) ⟨hG, (fun h => f0.out h), (fun h => f1.out h), (fun h => f2.out h), (fun h => f3.out h), (fun _ => rfl), (fun h => f5.out h), (fun h => f6.out h), (fun h => f7.out h), (fun h => f8.out h), (fun h => f9.out h), (fun h => f10.out h), (fun h => f11.out h), (fun h => f12.out h), (fun h => f13.out h), (fun h => f14.out h), (fun h => f15.out h), (fun h => f16.out h), (fun h => f17.out h), (fun h => f18.out h), (fun h => f19.out h), (fun h => f20.out h), (fun h => f21.out h), (fun h => f22.out h), (fun h => f23.out h)⟩
              · intro L vs W hlen hL hD hI K hK
                obtain ⟨x0, x1, x2, x3, x4, x5, x6, x7, x8, x9, x10, x11, x12, x13, x14, x15, x16, x17, x18, x19, x20, x21, x22, x23, rfl⟩ := len24 hlen
                have hG := hI.1
                replace hI := hI.2
                have f0 := hide hI.1
                replace hI := hI.2
                have f1 := hide hI.1
                replace hI := hI.2
                have f2 := hide hI.1
                replace hI := hI.2
                have f3 := hide hI.1
                replace hI := hI.2
                have f4 := hide hI.1
                replace hI := hI.2
                have f5 := hide hI.1
                replace hI := hI.2
                have f6 := hide hI.1
                replace hI := hI.2
                have f7 := hide hI.1
                replace hI := hI.2
                have f8 := hide hI.1
                replace hI := hI.2
                have f9 := hide hI.1
                replace hI := hI.2
                have f10 := hide hI.1
                replace hI := hI.2
                have f11 := hide hI.1
                replace hI := hI.2
                have f12 := hide hI.1
                replace hI := hI.2
                have f13 := hide hI.1
                replace hI := hI.2
                have f14 := hide hI.1
                replace hI := hI.2
                have f15 := hide hI.1
                replace hI := hI.2
                have f16 := hide hI.1
                replace hI := hI.2
                have f17 := hide hI.1
                replace hI := hI.2
                have f18 := hide hI.1
                replace hI := hI.2
                have f19 := hide hI.1
                replace hI := hI.2
                have f20 := hide hI.1
                replace hI := hI.2
                have f21 := hide hI.1
                replace hI := hI.2
                have f22 := hide hI.1
                replace hI := hI.2
                have f23 := hide hI
                clear hI
                have b0 := hG.cell 0 rfl
                have b1 := hG.cell 1 rfl
                have b2 := hG.cell 2 rfl
                obtain rfl := f0.out (hD.on 0 (by kernel_rfl))
                obtain rfl := f2.out (hD.on 2 (by kernel_rfl))
                obtain rfl := f4.out (hD.on 4 (by kernel_rfl))
                try simp only [puts, Act.put, List.setIfInBounds_toArray, List.set_cons_zero, List.set_cons_succ]
                try go_simp
                rw [hL] at hG
                refine (hG.writeC (by omega) HFIT.out (by have := HPD.out; omega)).mono ?_
                rintro e W' ⟨rfl, hG2⟩
                try go_simp
                exact hK.out _ _ _ (by simp only [puts, Act.put, List.setIfInBounds_toArray, List.set_cons_zero, List.set_cons_succ] <;> rfl) ⟨hG2, (fun h => f0.out h), (fun h => f1.out h), (fun h => f2.out h), (fun h => f3.out h), (fun h => f4.out h), (fun _ => rfl), (fun h => f6.out h), (fun h => f7.out h), (fun h => f8.out h), (fun h => f9.out h), (fun h => f10.out h), (fun h => (fun h => absurd (h.1.symm.trans hL) (by decide)) (f11.out h)), (fun h => (fun h => absurd (h.2.1.symm.trans hL) (by decide)) (f12.out h)), (fun h => (fun h => absurd (h.2.1.symm.trans hL) (by decide)) (f13.out h)), (fun h => (fun h => absurd (h.2.1.symm.trans hL) (by decide)) (f14.out h)), (fun h => (fun h => absurd (h.2.1.symm.trans hL) (by decide)) (f15.out h)), (fun h => (fun h => absurd (h.2.1.symm.trans hL) (by decide)) (f16.out h)), (fun h => f17.out h), (fun h => f18.out h), (fun h => f19.out h), (fun h => f20.out h), (fun h => f21.out h), (fun h => f22.out h), (fun h => f23.out h)⟩
              · intro L vs W hlen hL hD hI K hK
                obtain ⟨x0, x1, x2, x3, x4, x5, x6, x7, x8, x9, x10, x11, x12, x13, x14, x15, x16, x17, x18, x19, x20, x21, x22, x23, rfl⟩ := len24 hlen
                have hG := hI.1
                replace hI := hI.2
                have f0 := hide hI.1
                replace hI := hI.2
                have f1 := hide hI.1
                replace hI := hI.2
                have f2 := hide hI.1
                replace hI := hI.2
                have f3 := hide hI.1
                replace hI := hI.2
                have f4 := hide hI.1
                replace hI := hI.2
                have f5 := hide hI.1
                replace hI := hI.2
                have f6 := hide hI.1
                replace hI := hI.2
                have f7 := hide hI.1
                replace hI := hI.2
                have f8 := hide hI.1
                replace hI := hI.2
                have f9 := hide hI.1
                replace hI := hI.2
                have f10 := hide hI.1
                replace hI := hI.2
                have f11 := hide hI.1
                replace hI := hI.2
                have f12 := hide hI.1
                replace hI := hI.2
                have f13 := hide hI.1
                replace hI := hI.2
                have f14 := hide hI.1
                replace hI := hI.2
                have f15 := hide hI.1
                replace hI := hI.2
                have f16 := hide hI.1
                replace hI := hI.2
                have f17 := hide hI.1
                replace hI := hI.2
                have f18 := hide hI.1
                replace hI := hI.2
                have f19 := hide hI.1
                replace hI := hI.2
                have f20 := hide hI.1
                replace hI := hI.2
                have f21 := hide hI.1
                replace hI := hI.2
                have f22 := hide hI.1
                replace hI := hI.2
                have f23 := hide hI
                clear hI
                have b0 := hG.cell 0 rfl
                have b1 := hG.cell 1 rfl
                have b2 := hG.cell 2 rfl
                try simp only [puts, Act.put, List.setIfInBounds_toArray, List.set_cons_zero, List.set_cons_succ]
                try go_simp
                exact hK.out _ _ _ (by simp only [puts, Act.put, List.setIfInBounds_toArray, List.set_cons_zero, List.set_cons_succ] <;> rfl) ⟨hG, (fun h => f0.out h), (fun h => f1.out h), (fun h => f2.out h), (fun h => f3.out h), (fun h => f4.out h), (fun h => f5.out h), (fun _ => rfl), (fun h => f7.out h), (fun h => f8.out h), (fun h => f9.out h), (fun h => f10.out h), (fun h => f11.out h), (fun h => f12.out h), (fun h => f13.out h), (fun h => f14.out h), (fun h => f15.out h), (fun h => f16.out h), (fun h => f17.out h), (fun h => f18.out h), (fun h => f19.out h), (fun h => f20.out h), (fun h => f21.out h), (fun h => f22.out h), (fun h => f23.out h)⟩
              · intro L vs W hlen hL hD hI K hK
                obtain ⟨x0, x1, x2, x3, x4, x5, x6, x7, x8, x9, x10, x11, x12, x13, x14, x15, x16, x17, x18, x19, x20, x21, x22, x23, rfl⟩ := len24 hlen
                have hG := hI.1
                replace hI := hI.2
                have f0 := hide hI.1
                replace hI := hI.2
                have f1 := hide hI.1
                replace hI := hI.2
                have f2 := hide hI.1
                replace hI := hI.2
                have f3 := hide hI.1
                replace hI := hI.2
                have f4 := hide hI.1
                replace hI := hI.2
                have f5 := hide hI.1
                replace hI := hI.2
                have f6 := hide hI.1
                replace hI := hI.2
                have f7 := hide hI.1
                replace hI := hI.2
                have f8 := hide hI.1
                replace hI := hI.2
                have f9 := hide hI.1
                replace hI := hI.2
                have f10 := hide hI.1
                replace hI := hI.2
                have f11 := hide hI.1
                replace hI := hI.2
                have f12 := hide hI.1
                replace hI := hI.2
                have f13 := hide hI.1
                replace hI := hI.2
                have f14 := hide hI.1
                replace hI := hI.2
                have f15 := hide hI.1
                replace hI := hI.2
                have f16 := hide hI.1
                replace hI := hI.2
                have f17 := hide hI.1
                replace hI := hI.2
                have f18 := hide hI.1
                replace hI := hI.2
                have f19 := hide hI.1
                replace hI := hI.2
                have f20 := hide hI.1
                replace hI := hI.2
                have f21 := hide hI.1
                replace hI := hI.2
                have f22 := hide hI.1
                replace hI := hI.2
                have f23 := hide hI
                clear hI
                have b0 := hG.cell 0 rfl
                have b1 := hG.cell 1 rfl
                have b2 := hG.cell 2 rfl
                try simp only [puts, Act.put, List.setIfInBounds_toArray, List.set_cons_zero, List.set_cons_succ]
                try go_simp
                exact hK.out _ _ _ (by simp only [puts, Act.put, List.setIfInBounds_toArray, List.set_cons_zero, List.set_cons_succ] <;> rfl) ⟨hG, (fun h => f0.out h), (fun h => f1.out h), (fun h => f2.out h), (fun h => f3.out h), (fun h => f4.out h), (fun h => f5.out h), (fun h => f6.out h), (fun _ => rfl), (fun h => f8.out h), (fun h => f9.out h), (fun h => f10.out h), (fun h => f11.out h), (fun h => f12.out h), (fun h => f13.out h), (fun h => f14.out h), (fun h => f15.out h), (fun h => f16.out h), (fun h => f17.out h), (fun h => f18.out h), (fun h => f19.out h), (fun h => f20.out h), (fun h => f21.out h), (fun h => f22.out h), (fun h => f23.out h)⟩
              · intro L vs W hlen hL hD hI K hK
                obtain ⟨x0, x1, x2, x3, x4, x5, x6, x7, x8, x9, x10, x11, x12, x13, x14, x15, x16, x17, x18, x19, x20, x21, x22, x23, rfl⟩ := len24 hlen
                have hG := hI.1
                replace hI := hI.2
                have f0 := hide hI.1
                replace hI := hI.2
                have f1 := hide hI.1
                replace hI := hI.2
                have f2 := hide hI.1
                replace hI := hI.2
                have f3 := hide hI.1
                replace hI := hI.2
                have f4 := hide hI.1
                replace hI := hI.2
                have f5 := hide hI.1
                replace hI := hI.2
                have f6 := hide hI.1
                replace hI := hI.2
                have f7 := hide hI.1
                replace hI := hI.2
                have f8 := hide hI.1
                replace hI := hI.2
                have f9 := hide hI.1
                replace hI := hI.2
                have f10 := hide hI.1
                replace hI := hI.2
                have f11 := hide hI.1
                replace hI := hI.2
                have f12 := hide hI.1
                replace hI := hI.2
                have f13 := hide hI.1
                replace hI := hI.2
                have f14 := hide hI.1
                replace hI := hI.2
                have f15 := hide hI.1
                replace hI := hI.2
                have f16 := hide hI.1
                replace hI := hI.2
                have f17 := hide hI.1
                replace hI := hI.2
                have f18 := hide hI.1
                replace hI := hI.2
                have f19 := hide hI.1
                replace hI := hI.2
                have f20 := hide hI.1
                replace hI := hI.2
                have f21 := hide hI.1
                replace hI := hI.2
                have f22 := hide hI.1
                replace hI := hI.2
                have f23 := hide hI
                clear hI
                have b0 := hG.cell 0 rfl
                have b1 := hG.cell 1 rfl
                have b2 := hG.cell 2 rfl
                obtain rfl := f7.out (hD.on 7 (by kernel_rfl))
                try simp only [puts, Act.put, List.setIfInBounds_toArray, List.set_cons_zero, List.set_cons_succ]
                try go_simp
                exact hK.out _ _ _ (by simp only [puts, Act.put, List.setIfInBounds_toArray, List.set_cons_zero, List.set_cons_succ] <;> rfl) ⟨hG, (fun h => f0.out h), (fun h => f1.out h), (fun h => f2.out h), (fun h => f3.out h), (fun h => f4.out h), (fun h => f5.out h), (fun h => f6.out h), (fun h => f7.out h), (fun _ => rfl), (fun h => f9.out h), (fun h => f10.out h), (fun h => f11.out h), (fun h => f12.out h), (fun h => f13.out h), (fun h => f14.out h), (fun h => f15.out h), (fun h => f16.out h), (fun h => f17.out h), (fun h => f18.out h), (fun h => f19.out h), (fun h => f20.out h), (fun h => f21.out h), (fun h => f22.out h), (fun h => f23.out h)⟩
              · intro L vs W hlen hL hD hI K hK
                obtain ⟨x0, x1, x2, x3, x4, x5, x6, x7, x8, x9, x10, x11, x12, x13, x14, x15, x16, x17, x18, x19, x20, x21, x22, x23, rfl⟩ := len24 hlen
                have hG := hI.1
                replace hI := hI.2
                have f0 := hide hI.1
                replace hI := hI.2
                have f1 := hide hI.1
                replace hI := hI.2
                have f2 := hide hI.1
                replace hI := hI.2
                have f3 := hide hI.1
                replace hI := hI.2
                have f4 := hide hI.1
                replace hI := hI.2
                have f5 := hide hI.1
                replace hI := hI.2
                have f6 := hide hI.1
                replace hI := hI.2
                have f7 := hide hI.1
                replace hI := hI.2
                have f8 := hide hI.1
                replace hI := hI.2
                have f9 := hide hI.1
                replace hI := hI.2
                have f10 := hide hI.1
                replace hI := hI.2
                have f11 := hide hI.1
                replace hI := hI.2
                have f12 := hide hI.1
                replace hI := hI.2
                have f13 := hide hI.1
                replace hI := hI.2
                have f14 := hide hI.1
                replace hI := hI.2
                have f15 := hide hI.1
                replace hI := hI.2
                have f16 := hide hI.1
                replace hI := hI.2
                have f17 := hide hI.1
                replace hI := hI.2
                have f18 := hide hI.1
                replace hI := hI.2
                have f19 := hide hI.1
                replace hI := hI.2
                have f20 := hide hI.1
                replace hI := hI.2
                have f21 := hide hI.1
                replace hI := hI.2
                have f22 := hide hI.1
                replace hI := hI.2
                have f23 := hide hI
                clear hI
                have b0 := hG.cell 0 rfl
                have b1 := hG.cell 1 rfl
                have b2 := hG.cell 2 rfl
                try simp only [puts, Act.put, List.setIfInBounds_toArray, List.set_cons_zero, List.set_cons_succ]
                try go_simp
                exact hK.out _ _ _ (by simp only [puts, Act.put, List.setIfInBounds_toArray, List.set_cons_zero, List.set_cons_succ] <;> rfl) ⟨hG, (fun h => f0.out h), (fun h => f1.out h), (fun h => f2.out h), (fun h => f3.out h), (fun h => f4.out h), (fun h => f5.out h), (fun h => f6.out h), (fun h => f7.out h), (fun h => f8.out h), (fun _ => rfl), (fun h => f10.out h), (fun h => f11.out h), (fun h => f12.out h), (fun h => f13.out h), (fun h => f14.out h), (fun h => f15.out h), (fun h => f16.out h), (fun h => f17.out h), (fun h => f18.out h), (fun h => f19.out h), (fun h => f20.out h), (fun h => f21.out h), (fun h => f22.out h), (fun h => f23.out h)⟩
              · intro L vs W hlen hL hD hI K hK
                obtain ⟨x0, x1, x2, x3, x4, x5, x6, x7, x8, x9, x10, x11, x12, x13, x14, x15, x16, x17, x18, x19, x20, x21, x22, x23, rfl⟩ := len24 hlen
                have hG := hI.1
                replace hI := hI.2
                have f0 := hide hI.1
                replace hI := hI.2
                have f1 := hide hI.1
                replace hI := hI.2
                have f2 := hide hI.1
                replace hI := hI.2
                have f3 := hide hI.1
                replace hI := hI.2
                have f4 := hide hI.1
                replace hI := hI.2
                have f5 := hide hI.1
                replace hI := hI.2
                have f6 := hide hI.1
                replace hI := hI.2
                have f7 := hide hI.1
                replace hI := hI.2
                have f8 := hide hI.1
                replace hI := hI.2
                have f9 := hide hI.1
                replace hI := hI.2
                have f10 := hide hI.1
                replace hI := hI.2
                have f11 := hide hI.1
                replace hI := hI.2
                have f12 := hide hI.1
                replace hI := hI.2
                have f13 := hide hI.1
                replace hI := hI.2
                have f14 := hide hI.1
                replace hI := hI.2
                have f15 := hide hI.1
                replace hI := hI.2
                have f16 := hide hI.1
                replace hI := hI.2
                have f17 := hide hI.1
                replace hI := hI.2
                have f18 := hide hI.1
                replace hI := hI.2
                have f19 := hide hI.1
                replace hI := hI.2
                have f20 := hide hI.1
                replace hI := hI.2
                have f21 := hide hI.1
                replace hI := hI.2
                have f22 := hide hI.1
                replace hI := hI.2
                have f23 := hide hI
                clear hI
                have b0 := hG.cell 0 rfl
                have b1 := hG.cell 1 rfl
                have b2 := hG.cell 2 rfl
                obtain rfl := f9.out (hD.on 9 (by kernel_rfl))
                try simp only [puts, Act.put, List.setIfInBounds_toArray, List.set_cons_zero, List.set_cons_succ]
                try go_simp
                exact hK.out _ _ _ (by simp only [puts, Act.put, List.setIfInBounds_toArray, List.set_cons_zero, List.set_cons_succ] <;> rfl) ⟨hG, (fun h => f0.out h), (fun h => f1.out h), (fun h => f2.out h), (fun h => f3.out h), (fun h => f4.out h), (fun h => f5.out h), (fun h => f6.out h), (fun h => f7.out h), (fun h => f8.out h), (fun h => f9.out h), (fun _ => rfl), (fun h => f11.out h), (fun h => f12.out h), (fun h => f13.out h), (fun h => f14.out h), (fun h => f15.out h), (fun h => f16.out h), (fun h => f17.out h), (fun h => f18.out h), (fun h => f19.out h), (fun h => f20.out h), (fun h => f21.out h), (fun h => f22.out h), (fun h => f23.out h)⟩
              · intro L vs W hlen hL hD hI K hK
                obtain ⟨x0, x1, x2, x3, x4, x5, x6, x7, x8, x9, x10, x11, x12, x13, x14, x15, x16, x17, x18, x19, x20, x21, x22, x23, rfl⟩ := len24 hlen
                have hG := hI.1
                replace hI := hI.2
                have f0 := hide hI.1
                replace hI := hI.2
                have f1 := hide hI.1
                replace hI := hI.2
                have f2 := hide hI.1
                replace hI := hI.2
                have f3 := hide hI.1
                replace hI := hI.2
                have f4 := hide hI.1
                replace hI := hI.2
                have f5 := hide hI.1
                replace hI := hI.2
                have f6 := hide hI.1
                replace hI := hI.2
                have f7 := hide hI.1
                replace hI := hI.2
                have f8 := hide hI.1
                replace hI := hI.2
                have f9 := hide hI.1
                replace hI := hI.2
                have f10 := hide hI.1
                replace hI := hI.2
                have f11 := hide hI.1
                replace hI := hI.2
                have f12 := hide hI.1
                replace hI := hI.2
                have f13 := hide hI.1
                replace hI := hI.2
                have f14 := hide hI.1
                replace hI := hI.2
                have f15 := hide hI.1
                replace hI := hI.2
                have f16 := hide hI.1
                replace hI := hI.2
                have f17 := hide hI.1
                replace hI := hI.2
                have f18 := hide hI.1
                replace hI := hI.2
                have f19 := hide hI.1
                replace hI := hI.2
                have f20 := hide hI.1
                replace hI := hI.2
                have f21 := hide hI.1
                replace hI := hI.2
                have f22 := hide hI.1
                replace hI := hI.2
                have f23 := hide hI
                clear hI
                have b0 := hG.cell 0 rfl
                have b1 := hG.cell 1 rfl
                have b2 := hG.cell 2 rfl
                obtain rfl := f6.out (hD.on 6 (by kernel_rfl))
                obtain rfl := f8.out (hD.on 8 (by kernel_rfl))
                obtain rfl := f10.out (hD.on 10 (by kernel_rfl))
                try simp only [puts, Act.put, List.setIfInBounds_toArray, List.set_cons_zero, List.set_cons_succ]
                try go_simp
                rw [hL] at hG
                refine (hG.writeA (by omega) HFIT.out (by have := HPD.out; omega)).mono ?_
                rintro e W' ⟨rfl, hG2⟩
                try go_simp
                exact hK.out _ _ _ (by simp only [puts, Act.put, List.setIfInBounds_toArray, List.set_cons_zero, List.set_cons_succ] <;> rfl) ⟨hG2, (fun h => f0.out h), (fun h => f1.out h), (fun h => f2.out h), (fun h => f3.out h), (fun h => f4.out h), (fun h => f5.out h), (fun h => f6.out h), (fun h => f7.out h), (fun h => f8.out h), (fun h => f9.out h), (fun h => f10.out h), (fun _ => ⟨hD.on 5 (by kernel_rfl), rfl⟩), (fun h => (fun h => absurd (h.1.symm.trans hL) (by decide)) (f12.out h)), (fun h => (fun h => absurd (h.1.symm.trans hL) (by decide)) (f13.out h)), (fun h => (fun h => absurd (h.1.symm.trans hL) (by decide)) (f14.out h)), (fun h => (fun h => absurd (h.1.symm.trans hL) (by decide)) (f15.out h)), (fun h => (fun h => absurd (h.1.symm.trans hL) (by decide)) (f16.out h)), (fun h => f17.out h), (fun h => f18.out h), (fun h => f19.out h), (fun h => f20.out h), (fun h => f21.out h), (fun h => f22.out h), (fun h => f23.out h)⟩
              · intro L vs W hlen hL hD hI K hK
                obtain ⟨x0, x1, x2, x3, x4, x5, x6, x7, x8, x9, x10, x11, x12, x13, x14, x15, x16, x17, x18, x19, x20, x21, x22, x23, rfl⟩ := len24 hlen
                have hG := hI.1
                replace hI := hI.2
                have f0 := hide hI.1
                replace hI := hI.2
                have f1 := hide hI.1
                replace hI := hI.2
                have f2 := hide hI.1
                replace hI := hI.2
                have f3 := hide hI.1
                replace hI := hI.2
                have f4 := hide hI.1
                replace hI := hI.2
                have f5 := hide hI.1
                replace hI := hI.2
                have f6 := hide hI.1
                replace hI := hI.2
                have f7 := hide hI.1
                replace hI := hI.2
                have f8 := hide hI.1
                replace hI := hI.2
                have f9 := hide hI.1
                replace hI := hI.2
                have f10 := hide hI.1
                replace hI := hI.2
                have f11 := hide hI.1
                replace hI := hI.2
                have f12 := hide hI.1
                replace hI := hI.2
                have f13 := hide hI.1
                replace hI := hI.2
                have f14 := hide hI.1
                replace hI := hI.2
                have f15 := hide hI.1
                replace hI := hI.2
                have f16 := hide hI.1
                replace hI := hI.2
                have f17 := hide hI.1
                replace hI := hI.2
                have f18 := hide hI.1
                replace hI := hI.2
                have f19 := hide hI.1
                replace hI := hI.2
                have f20 := hide hI.1
                replace hI := hI.2
                have f21 := hide hI.1
                replace hI := hI.2
                have f22 := hide hI.1
                replace hI := hI.2
                have f23 := hide hI
                clear hI
                have b0 := hG.cell 0 rfl
                have b1 := hG.cell 1 rfl
                have b2 := hG.cell 2 rfl
                obtain rfl := f5.out (hD.on 5 (by kernel_rfl))
                have g11 := f11.out (hD.on 11 (by kernel_rfl))
                try simp only [puts, Act.put, List.setIfInBounds_toArray, List.set_cons_zero, List.set_cons_succ]
                obtain ⟨-, rfl⟩ := g11
                go_simp
                exact hK.out _ _ _ (by simp only [puts, Act.put, List.setIfInBounds_toArray, List.set_cons_zero, List.set_cons_succ] <;> rfl) ⟨hG, (fun h => f0.out h), (fun h => f1.out h), (fun h => f2.out h), (fun h => f3.out h), (fun h => f4.out h), (fun h => f5.out h), (fun h => f6.out h), (fun h => f7.out h), (fun h => f8.out h), (fun h => f9.out h), (fun h => f10.out h), (fun h => f11.out h), (fun _ => ⟨hD.on 11 (by kernel_rfl), hD.on 5 (by kernel_rfl), rfl⟩), (fun h => f13.out h), (fun h => f14.out h), (fun h => f15.out h), (fun h => f16.out h), (fun h => f17.out h), (fun h => f18.out h), (fun h => f19.out h), (fun h => f20.out h), (fun h => f21.out h), (fun h => f22.out h), (fun h => f23.out h)⟩
              · intro L vs W hlen hL hD hI K hK
                obtain ⟨x0, x1, x2, x3, x4, x5, x6, x7, x8, x9, x10, x11, x12, x13, x14, x15, x16, x17, x18, x19, x20, x21, x22, x23, rfl⟩ := len24 hlen
                have hG := hI.1
                replace hI := hI.2
                have f0 := hide hI.1
                replace hI := hI.2
                have f1 := hide hI.1
                replace hI := hI.2
                have f2 := hide hI.1
                replace hI := hI.2
                have f3 := hide hI.1
                replace hI := hI.2
                have f4 := hide hI.1
                replace hI := hI.2
                have f5 := hide hI.1
                replace hI := hI.2
                have f6 := hide hI.1
                replace hI := hI.2
                have f7 := hide hI.1
                replace hI := hI.2
                have f8 := hide hI.1
                replace hI := hI.2
                have f9 := hide hI.1
                replace hI := hI.2
                have f10 := hide hI.1
                replace hI := hI.2
                have f11 := hide hI.1
                replace hI := hI.2
                have f12 := hide hI.1
                replace hI := hI.2
                have f13 := hide hI.1
                replace hI := hI.2
                have f14 := hide hI.1
                replace hI := hI.2
                have f15 := hide hI.1
                replace hI := hI.2
                have f16 := hide hI.1
                replace hI := hI.2
                have f17 := hide hI.1
                replace hI := hI.2
                have f18 := hide hI.1
                replace hI := hI.2
                have f19 := hide hI.1
                replace hI := hI.2
                have f20 := hide hI.1
                replace hI := hI.2
                have f21 := hide hI.1
                replace hI := hI.2
                have f22 := hide hI.1
                replace hI := hI.2
                have f23 := hide hI
                clear hI
                have b0 := hG.cell 0 rfl
                have b1 := hG.cell 1 rfl
                have b2 := hG.cell 2 rfl
                have g12 := f12.out (hD.on 12 (by kernel_rfl))
                try simp only [puts, Act.put, List.setIfInBounds_toArray, List.set_cons_zero, List.set_cons_succ]
                obtain ⟨q1, q2, rfl⟩ := g12
                go_simp
                exact hK.out _ _ _ (by simp only [puts, Act.put, List.setIfInBounds_toArray, List.set_cons_zero, List.set_cons_succ] <;> rfl) ⟨hG, (fun h => f0.out h), (fun h => f1.out h), (fun h => f2.out h), (fun h => f3.out h), (fun h => f4.out h), (fun h => f5.out h), (fun h => f6.out h), (fun h => f7.out h), (fun h => f8.out h), (fun h => f9.out h), (fun h => f10.out h), (fun h => f11.out h), (fun h => f12.out h), (fun _ => ⟨q1, q2, rfl⟩), (fun h => f14.out h), (fun h => f15.out h), (fun h => f16.out h), (fun h => f17.out h), (fun h => f18.out h), (fun h => f19.out h), (fun h => f20.out h), (fun h => f21.out h), (fun h => f22.out h), (fun h => f23.out h)⟩
              · intro L vs W hlen hL hD hI K hK
                obtain ⟨x0, x1, x2, x3, x4, x5, x6, x7, x8, x9, x10, x11, x12, x13, x14, x15, x16, x17, x18, x19, x20, x21, x22, x23, rfl⟩ := len24 hlen
                have hG := hI.1
                replace hI := hI.2
                have f0 := hide hI.1
                replace hI := hI.2
                have f1 := hide hI.1
                replace hI := hI.2
                have f2 := hide hI.1
                replace hI := hI.2
                have f3 := hide hI.1
                replace hI := hI.2
                have f4 := hide hI.1
                replace hI := hI.2
                have f5 := hide hI.1
                replace hI := hI.2
                have f6 := hide hI.1
                replace hI := hI.2
                have f7 := hide hI.1
                replace hI := hI.2
                have f8 := hide hI.1
                replace hI := hI.2
                have f9 := hide hI.1
                replace hI := hI.2
                have f10 := hide hI.1
                replace hI := hI.2
                have f11 := hide hI.1
                replace hI := hI.2
                have f12 := hide hI.1
                replace hI := hI.2
                have f13 := hide hI.1
                replace hI := hI.2
                have f14 := hide hI.1
                replace hI := hI.2
                have f15 := hide hI.1
                replace hI := hI.2
                have f16 := hide hI.1
                replace hI := hI.2
                have f17 := hide hI.1
                replace hI := hI.2
                have f18 := hide hI.1
                replace hI := hI.2
                have f19 := hide hI.1
                replace hI := hI.2
                have f20 := hide hI.1
                replace hI := hI.2
                have f21 := hide hI.1
                replace hI := hI.2
                have f22 := hide hI.1
                replace hI := hI.2
                have f23 := hide hI
                clear hI
                have b0 := hG.cell 0 rfl
                have b1 := hG.cell 1 rfl
                have b2 := hG.cell 2 rfl
                have g13 := f13.out (hD.on 13 (by kernel_rfl))
                try simp only [puts, Act.put, List.setIfInBounds_toArray, List.set_cons_zero, List.set_cons_succ]
                obtain ⟨q1, q2, rfl⟩ := g13
                go_simp
                exact hK.out _ _ _ (by simp only [puts, Act.put, List.setIfInBounds_toArray, List.set_cons_zero, List.set_cons_succ] <;> rfl) ⟨hG, (fun h => f0.out h), (fun h => f1.out h), (fun h => f2.out h), (fun h => f3.out h), (fun h => f4.out h), (fun h => f5.out h), (fun h => f6.out h), (fun h => f7.out h), (fun h => f8.out h), (fun h => f9.out h), (fun h => f10.out h), (fun h => f11.out h), (fun h => f12.out h), (fun h => f13.out h), (fun _ => ⟨q1, q2, rfl⟩), (fun h => f15.out h), (fun h => f16.out h), (fun h => f17.out h), (fun h => f18.out h), (fun h => f19.out h), (fun h => f20.out h), (fun h => f21.out h), (fun h => f22.out h), (fun h => f23.out h)⟩
              · intro L vs W hlen hL hD hI K hK
                obtain ⟨x0, x1, x2, x3, x4, x5, x6, x7, x8, x9, x10, x11, x12, x13, x14, x15, x16, x17, x18, x19, x20, x21, x22, x23, rfl⟩ := len24 hlen
                have hG := hI.1
                replace hI := hI.2
                have f0 := hide hI.1
                replace hI := hI.2
                have f1 := hide hI.1
                replace hI := hI.2
                have f2 := hide hI.1
                replace hI := hI.2
                have f3 := hide hI.1
                replace hI := hI.2
                have f4 := hide hI.1
                replace hI := hI.2
                have f5 := hide hI.1
                replace hI := hI.2
                have f6 := hide hI.1
                replace hI := hI.2
                have f7 := hide hI.1
                replace hI := hI.2
                have f8 := hide hI.1
                replace hI := hI.2
                have f9 := hide hI.1
                replace hI := hI.2
                have f10 := hide hI.1
                replace hI := hI.2
                have f11 := hide hI.1
                replace hI := hI.2
                have f12 := hide hI.1
                replace hI := hI.2
                have f13 := hide hI.1
                replace hI := hI.2
                have f14 := hide hI.1
                replace hI := hI.2
                have f15 := hide hI.1
                replace hI := hI.2
                have f16 := hide hI.1
                replace hI := hI.2
                have f17 := hide hI.1
                replace hI := hI.2
                have f18 := hide hI.1
                replace hI := hI.2
                have f19 := hide hI.1
                replace hI := hI.2
                have f20 := hide hI.1
                replace hI := hI.2
                have f21 := hide hI.1
                replace hI := hI.2
                have f22 := hide hI.1
                replace hI := hI.2
                have f23 := hide hI
                clear hI
                have b0 := hG.cell 0 rfl
                have b1 := hG.cell 1 rfl
                have b2 := hG.cell 2 rfl
                have g13 := f13.out (hD.on 13 (by kernel_rfl))
                have g14 := f14.out (hD.on 14 (by kernel_rfl))
                try simp only [puts, Act.put, List.setIfInBounds_toArray, List.set_cons_zero, List.set_cons_succ]
                obtain ⟨q1, q2, rfl⟩ := g13
                obtain ⟨-, -, rfl⟩ := g14
                go_simp
                exact hK.out _ _ _ (by simp only [puts, Act.put, List.setIfInBounds_toArray, List.set_cons_zero, List.set_cons_succ] <;> rfl) ⟨hG, (fun h => f0.out h), (fun h => f1.out h), (fun h => f2.out h), (fun h => f3.out h), (fun h => f4.out h), (fun h => f5.out h), (fun h => f6.out h), (fun h => f7.out h), (fun h => f8.out h), (fun h => f9.out h), (fun h => f10.out h), (fun h => f11.out h), (fun h => f12.out h), (fun h => f13.out h), (fun h => f14.out h), (fun _ => ⟨q1, q2, rfl⟩), (fun h => f16.out h), (fun h => f17.out h), (fun h => f18.out h), (fun h => f19.out h), (fun h => f20.out h), (fun h => f21.out h), (fun h => f22.out h), (fun h => f23.out h)⟩
              · intro L vs W hlen hL hD hI K hK
                obtain ⟨x0, x1, x2, x3, x4, x5, x6, x7, x8, x9, x10, x11, x12, x13, x14, x15, x16, x17, x18, x19, x20, x21, x22, x23, rfl⟩ := len24 hlen
                have hG := hI.1
                replace hI := hI.2
                have f0 := hide hI.1
                replace hI := hI.2
                have f1 := hide hI.1
                replace hI := hI.2
                have f2 := hide hI.1
                replace hI := hI.2
                have f3 := hide hI.1
                replace hI := hI.2
                have f4 := hide hI.1
                replace hI := hI.2
                have f5 := hide hI.1
                replace hI := hI.2
                have f6 := hide hI.1
                replace hI := hI.2
                have f7 := hide hI.1
                replace hI := hI.2
                have f8 := hide hI.1
                replace hI := hI.2
                have f9 := hide hI.1
                replace hI := hI.2
                have f10 := hide hI.1
                replace hI := hI.2
                have f11 := hide hI.1
                replace hI := hI.2
                have f12 := hide hI.1
                replace hI := hI.2
                have f13 := hide hI.1
                replace hI := hI.2
                have f14 := hide hI.1
                replace hI := hI.2
                have f15 := hide hI.1
                replace hI := hI.2
                have f16 := hide hI.1
                replace hI := hI.2
                have f17 := hide hI.1
                replace hI := hI.2
                have f18 := hide hI.1
                replace hI := hI.2
                have f19 := hide hI.1
                replace hI := hI.2
                have f20 := hide hI.1
                replace hI := hI.2
                have f21 := hide hI.1
                replace hI := hI.2
                have f22 := hide hI.1
                replace hI := hI.2
                have f23 := hide hI
                clear hI
                have b0 := hG.cell 0 rfl
                have b1 := hG.cell 1 rfl
                have b2 := hG.cell 2 rfl
                have g13 := f13.out (hD.on 13 (by kernel_rfl))
                have g15 := f15.out (hD.on 15 (by kernel_rfl))
                try simp only [puts, Act.put, List.setIfInBounds_toArray, List.set_cons_zero, List.set_cons_succ]
                obtain ⟨q1, q2, rfl⟩ := g13
                obtain ⟨-, -, rfl⟩ := g15
                go_simp
                exact hK.out _ _ _ (by simp only [puts, Act.put, List.setIfInBounds_toArray, List.set_cons_zero, List.set_cons_succ] <;> rfl) ⟨hG, (fun h => f0.out h), (fun h => f1.out h), (fun h => f2.out h), (fun h => f3.out h), (fun h => f4.out h), (fun h => f5.out h), (fun h => f6.out h), (fun h => f7.out h), (fun h => f8.out h), (fun h => f9.out h), (fun h => f10.out h), (fun h => f11.out h), (fun h => f12.out h), (fun h => f13.out h), (fun h => f14.out h), (fun h => f15.out h), (fun _ => ⟨q1, q2, rfl⟩), (fun h => f17.out h), (fun h => f18.out h), (fun h => f19.out h), (fun h => f20.out h), (fun h => f21.out h), (fun h => f22.out h), (fun h => f23.out h)⟩
              · intro L vs W hlen hL hD hI K hK
                obtain ⟨x0, x1, x2, x3, x4, x5, x6, x7, x8, x9, x10, x11, x12, x13, x14, x15, x16, x17, x18, x19, x20, x21, x22, x23, rfl⟩ := len24 hlen
                have hG := hI.1
                replace hI := hI.2
                have f0 := hide hI.1
                replace hI := hI.2
                have f1 := hide hI.1
                replace hI := hI.2
                have f2 := hide hI.1
                replace hI := hI.2
                have f3 := hide hI.1
                replace hI := hI.2
                have f4 := hide hI.1
                replace hI := hI.2
                have f5 := hide hI.1
                replace hI := hI.2
                have f6 := hide hI.1
                replace hI := hI.2
                have f7 := hide hI.1
                replace hI := hI.2
                have f8 := hide hI.1
                replace hI := hI.2
                have f9 := hide hI.1
                replace hI := hI.2
                have f10 := hide hI.1
                replace hI := hI.2
                have f11 := hide hI.1
                replace hI := hI.2
                have f12 := hide hI.1
                replace hI := hI.2
                have f13 := hide hI.1
                replace hI := hI.2
                have f14 := hide hI.1
                replace hI := hI.2
                have f15 := hide hI.1
                replace hI := hI.2
                have f16 := hide hI.1
                replace hI := hI.2
                have f17 := hide hI.1
                replace hI := hI.2
                have f18 := hide hI.1
                replace hI := hI.2
                have f19 := hide hI.1
                replace hI := hI.2
                have f20 := hide hI.1
                replace hI := hI.2
                have f21 := hide hI.1
                replace hI := hI.2
                have f22 := hide hI.1
                replace hI := hI.2
                have f23 := hide hI
                clear hI
                have b0 := hG.cell 0 rfl
                have b1 := hG.cell 1 rfl
                have b2 := hG.cell 2 rfl
                have g16 := f16.out (hD.on 16 (by kernel_rfl))
                try simp only [puts, Act.put, List.setIfInBounds_toArray, List.set_cons_zero, List.set_cons_succ]
                obtain ⟨-, -, rfl⟩ := g16
                go_simp
                exact hK.out _ _ _ (by simp only [puts, Act.put, List.setIfInBounds_toArray, List.set_cons_zero, List.set_cons_succ] <;> rfl) ⟨hG, (fun h => f0.out h), (fun h => f1.out h), (fun h => f2.out h), (fun h => f3.out h), (fun h => f4.out h), (fun h => f5.out h), (fun h => f6.out h), (fun h => f7.out h), (fun h => f8.out h), (fun h => f9.out h), (fun h => f10.out h), (fun h => f11.out h), (fun h => f12.out h), (fun h => f13.out h), (fun h => f14.out h), (fun h => f15.out h), (fun h => f16.out h), (fun _ => rfl), (fun h => f18.out h), (fun h => f19.out h), (fun h => f20.out h), (fun h => f21.out h), (fun h => f22.out h), (fun h => f23.out h)⟩
              · intro L vs W hlen hL hD hI K hK
                obtain ⟨x0, x1, x2, x3, x4, x5, x6, x7, x8, x9, x10, x11, x12, x13, x14, x15, x16, x17, x18, x19, x20, x21, x22, x23, rfl⟩ := len24 hlen
                have hG := hI.1
                replace hI := hI.2
                have f0 := hide hI.1
                replace hI := hI.2
                have f1 := hide hI.1
                replace hI := hI.2
                have f2 := hide hI.1
                replace hI := hI.2
                have f3 := hide hI.1
                replace hI := hI.2
                have f4 := hide hI.1
                replace hI := hI.2
                have f5 := hide hI.1
                replace hI := hI.2
                have f6 := hide hI.1
                replace hI := hI.2
                have f7 := hide hI.1
                replace hI := hI.2
                have f8 := hide hI.1
                replace hI := hI.2
                have f9 := hide hI.1
                replace hI := hI.2
                have f10 := hide hI.1
                replace hI := hI.2
                have f11 := hide hI.1
                replace hI := hI.2
                have f12 := hide hI.1
                replace hI := hI.2
                have f13 := hide hI.1
                replace hI := hI.2
                have f14 := hide hI.1
                replace hI := hI.2
                have f15 := hide hI.1
                replace hI := hI.2
                have f16 := hide hI.1
                replace hI := hI.2
                have f17 := hide hI.1
                replace hI := hI.2
                have f18 := hide hI.1
                replace hI := hI.2
                have f19 := hide hI.1
                replace hI := hI.2
                have f20 := hide hI.1
                replace hI := hI.2
                have f21 := hide hI.1
                replace hI := hI.2
                have f22 := hide hI.1
                replace hI := hI.2
                have f23 := hide hI
                clear hI
                have b0 := hG.cell 0 rfl
                have b1 := hG.cell 1 rfl
                have b2 := hG.cell 2 rfl
                have g16 := f16.out (hD.on 16 (by kernel_rfl))
                try simp only [puts, Act.put, List.setIfInBounds_toArray, List.set_cons_zero, List.set_cons_succ]
                obtain ⟨-, -, rfl⟩ := g16
                go_simp
                exact hK.out _ _ _ (by simp only [puts, Act.put, List.setIfInBounds_toArray, List.set_cons_zero, List.set_cons_succ] <;> rfl) ⟨hG, (fun h => f0.out h), (fun h => f1.out h), (fun h => f2.out h), (fun h => f3.out h), (fun h => f4.out h), (fun h => f5.out h), (fun h => f6.out h), (fun h => f7.out h), (fun h => f8.out h), (fun h => f9.out h), (fun h => f10.out h), (fun h => f11.out h), (fun h => f12.out h), (fun h => f13.out h), (fun h => f14.out h), (fun h => f15.out h), (fun h => f16.out h), (fun h => f17.out h), (fun _ => rfl), (fun h => f19.out h), (fun h => f20.out h), (fun h => f21.out h), (fun h => f22.out h), (fun h => f23.out h)⟩
              · intro L vs W hlen hL hD hI K hK
                obtain ⟨x0, x1, x2, x3, x4, x5, x6, x7, x8, x9, x10, x11, x12, x13, x14, x15, x16, x17, x18, x19, x20, x21, x22, x23, rfl⟩ := len24 hlen
                have hG := hI.1
                replace hI := hI.2
                have f0 := hide hI.1
                replace hI := hI.2
                have f1 := hide hI.1
                replace hI := hI.2
                have f2 := hide hI.1
                replace hI := hI.2
                have f3 := hide hI.1
                replace hI := hI.2
                have f4 := hide hI.1
                replace hI := hI.2
                have f5 := hide hI.1
                replace hI := hI.2
                have f6 := hide hI.1
                replace hI := hI.2
                have f7 := hide hI.1
                replace hI := hI.2
                have f8 := hide hI.1
                replace hI := hI.2
                have f9 := hide hI.1
                replace hI := hI.2
                have f10 := hide hI.1
                replace hI := hI.2
                have f11 := hide hI.1
                replace hI := hI.2
                have f12 := hide hI.1
                replace hI := hI.2
                have f13 := hide hI.1
                replace hI := hI.2
                have f14 := hide hI.1
                replace hI := hI.2
                have f15 := hide hI.1
                replace hI := hI.2
                have f16 := hide hI.1
                replace hI := hI.2
                have f17 := hide hI.1
                replace hI := hI.2
                have f18 := hide hI.1
                replace hI := hI.2
                have f19 := hide hI.1
                replace hI := hI.2
                have f20 := hide hI.1
                replace hI := hI.2
                have f21 := hide hI.1
                replace hI := hI.2
                have f22 := hide hI.1
                replace hI := hI.2
                have f23 := hide hI
                clear hI
                have b0 := hG.cell 0 rfl
                have b1 := hG.cell 1 rfl
                have b2 := hG.cell 2 rfl
                have g16 := f16.out (hD.on 16 (by kernel_rfl))
                try simp only [puts, Act.put, List.setIfInBounds_toArray, List.set_cons_zero, List.set_cons_succ]
                obtain ⟨-, -, rfl⟩ := g16
                go_simp
                exact hK.out _ _ _ (by simp only [puts, Act.put, List.setIfInBounds_toArray, List.set_cons_zero, List.set_cons_succ] <;> rfl) ⟨hG, (fun h => f0.out h), (fun h => f1.out h), (fun h => f2.out h), (fun h => f3.out h), (fun h => f4.out h), (fun h => f5.out h), (fun h => f6.out h), (fun h => f7.out h), (fun h => f8.out h), (fun h => f9.out h), (fun h => f10.out h), (fun h => f11.out h), (fun h => f12.out h), (fun h => f13.out h), (fun h => f14.out h), (fun h => f15.out h), (fun h => f16.out h), (fun h => f17.out h), (fun h => f18.out h), (fun _ => rfl), (fun h => f20.out h), (fun h => f21.out h), (fun h => f22.out h), (fun h => f23.out h)⟩
              · intro L vs W hlen hL hD hI K hK
                obtain ⟨x0, x1, x2, x3, x4, x5, x6, x7, x8, x9, x10, x11, x12, x13, x14, x15, x16, x17, x18, x19, x20, x21, x22, x23, rfl⟩ := len24 hlen
                have hG := hI.1
                replace hI := hI.2
                have f0 := hide hI.1
                replace hI := hI.2
                have f1 := hide hI.1
                replace hI := hI.2
                have f2 := hide hI.1
                replace hI := hI.2
                have f3 := hide hI.1
                replace hI := hI.2
                have f4 := hide hI.1
                replace hI := hI.2
                have f5 := hide hI.1
                replace hI := hI.2
                have f6 := hide hI.1
                replace hI := hI.2
                have f7 := hide hI.1
                replace hI := hI.2
                have f8 := hide hI.1
                replace hI := hI.2
                have f9 := hide hI.1
                replace hI := hI.2
                have f10 := hide hI.1
                replace hI := hI.2
                have f11 := hide hI.1
                replace hI := hI.2
                have f12 := hide hI.1
                replace hI := hI.2
                have f13 := hide hI.1
                replace hI := hI.2
                have f14 := hide hI.1
                replace hI := hI.2
                have f15 := hide hI.1
                replace hI := hI.2
                have f16 := hide hI.1
                replace hI := hI.2
                have f17 := hide hI.1
                replace hI := hI.2
                have f18 := hide hI.1
                replace hI := hI.2
                have f19 := hide hI.1
                replace hI := hI.2
                have f20 := hide hI.1
                replace hI := hI.2
                have f21 := hide hI.1
                replace hI := hI.2
                have f22 := hide hI.1
                replace hI := hI.2
                have f23 := hide hI
                clear hI
                have b0 := hG.cell 0 rfl
                have b1 := hG.cell 1 rfl
                have b2 := hG.cell 2 rfl
                have g16 := f16.out (hD.on 16 (by kernel_rfl))
                try simp only [puts, Act.put, List.setIfInBounds_toArray, List.set_cons_zero, List.set_cons_succ]
                obtain ⟨-, -, rfl⟩ := g16
                go_simp
                exact hK.out _ _ _ (by simp only [puts, Act.put, List.setIfInBounds_toArray, List.set_cons_zero, List.set_cons_succ] <;> rfl) ⟨hG, (fun h => f0.out h), (fun h => f1.out h), (fun h => f2.out h), (fun h => f3.out h), (fun h => f4.out h), (fun h => f5.out h), (fun h => f6.out h), (fun h => f7.out h), (fun h => f8.out h), (fun h => f9.out h), (fun h => f10.out h), (fun h => f11.out h), (fun h => f12.out h), (fun h => f13.out h), (fun h => f14.out h), (fun h => f15.out h), (fun h => f16.out h), (fun h => f17.out h), (fun h => f18.out h), (fun h => f19.out h), (fun _ => rfl), (fun h => f21.out h), (fun h => f22.out h), (fun h => f23.out h)⟩
              · intro L vs W hlen hL hD hI K hK
                obtain ⟨x0, x1, x2, x3, x4, x5, x6, x7, x8, x9, x10, x11, x12, x13, x14, x15, x16, x17, x18, x19, x20, x21, x22, x23, rfl⟩ := len24 hlen
                have hG := hI.1
                replace hI := hI.2
                have f0 := hide hI.1
                replace hI := hI.2
                have f1 := hide hI.1
                replace hI := hI.2
                have f2 := hide hI.1
                replace hI := hI.2
                have f3 := hide hI.1
                replace hI := hI.2
                have f4 := hide hI.1
                replace hI := hI.2
                have f5 := hide hI.1
                replace hI := hI.2
                have f6 := hide hI.1
                replace hI := hI.2
                have f7 := hide hI.1
                replace hI := hI.2
                have f8 := hide hI.1
                replace hI := hI.2
                have f9 := hide hI.1
                replace hI := hI.2
                have f10 := hide hI.1
                replace hI := hI.2
                have f11 := hide hI.1
                replace hI := hI.2
                have f12 := hide hI.1
                replace hI := hI.2
                have f13 := hide hI.1
                replace hI := hI.2
                have f14 := hide hI.1
                replace hI := hI.2
                have f15 := hide hI.1
                replace hI := hI.2
                have f16 := hide hI.1
                replace hI := hI.2
                have f17 := hide hI.1
                replace hI := hI.2
                have f18 := hide hI.1
                replace hI := hI.2
                have f19 := hide hI.1
                replace hI := hI.2
                have f20 := hide hI.1
                replace hI := hI.2
                have f21 := hide hI.1
                replace hI := hI.2
                have f22 := hide hI.1
                replace hI := hI.2
                have f23 := hide hI
                clear hI
                have b0 := hG.cell 0 rfl
                have b1 := hG.cell 1 rfl
                have b2 := hG.cell 2 rfl
                have g16 := f16.out (hD.on 16 (by kernel_rfl))
                try simp only [puts, Act.put, List.setIfInBounds_toArray, List.set_cons_zero, List.set_cons_succ]
                obtain ⟨-, -, rfl⟩ := g16
                go_simp
                exact hK.out _ _ _ (by simp only [puts, Act.put, List.setIfInBounds_toArray, List.set_cons_zero, List.set_cons_succ] <;> rfl) ⟨hG, (fun h => f0.out h), (fun h => f1.out h), (fun h => f2.out h), (fun h => f3.out h), (fun h => f4.out h), (fun h => f5.out h), (fun h => f6.out h), (fun h => f7.out h), (fun h => f8.out h), (fun h => f9.out h), (fun h => f10.out h), (fun h => f11.out h), (fun h => f12.out h), (fun h => f13.out h), (fun h => f14.out h), (fun h => f15.out h), (fun h => f16.out h), (fun h => f17.out h), (fun h => f18.out h), (fun h => f19.out h), (fun h => f20.out h), (fun _ => rfl), (fun h => f22.out h), (fun h => f23.out h)⟩
              · intro L vs W hlen hL hD hI K hK
                obtain ⟨x0, x1, x2, x3, x4, x5, x6, x7, x8, x9, x10, x11, x12, x13, x14, x15, x16, x17, x18, x19, x20, x21, x22, x23, rfl⟩ := len24 hlen
                have hG := hI.1
                replace hI := hI.2
                have f0 := hide hI.1
                replace hI := hI.2
                have f1 := hide hI.1
                replace hI := hI.2
                have f2 := hide hI.1
                replace hI := hI.2
                have f3 := hide hI.1
                replace hI := hI.2
                have f4 := hide hI.1
                replace hI := hI.2
                have f5 := hide hI.1
                replace hI := hI.2
                have f6 := hide hI.1
                replace hI := hI.2
                have f7 := hide hI.1
                replace hI := hI.2
                have f8 := hide hI.1
                replace hI := hI.2
                have f9 := hide hI.1
                replace hI := hI.2
                have f10 := hide hI.1
                replace hI := hI.2
                have f11 := hide hI.1
                replace hI := hI.2
                have f12 := hide hI.1
                replace hI := hI.2
                have f13 := hide hI.1
                replace hI := hI.2
                have f14 := hide hI.1
                replace hI := hI.2
                have f15 := hide hI.1
                replace hI := hI.2
                have f16 := hide hI.1
                replace hI := hI.2
                have f17 := hide hI.1
                replace hI := hI.2
                have f18 := hide hI.1
                replace hI := hI.2
                have f19 := hide hI.1
                replace hI := hI.2
                have f20 := hide hI.1
                replace hI := hI.2
                have f21 := hide hI.1
                replace hI := hI.2
                have f22 := hide hI.1
                replace hI := hI.2
                have f23 := hide hI
                clear hI
                have b0 := hG.cell 0 rfl
                have b1 := hG.cell 1 rfl
                have b2 := hG.cell 2 rfl
                have g13 := f13.out (hD.on 13 (by kernel_rfl))
                have g16 := f16.out (hD.on 16 (by kernel_rfl))
                try simp only [puts, Act.put, List.setIfInBounds_toArray, List.set_cons_zero, List.set_cons_succ]
                obtain ⟨-, -, rfl⟩ := g13
                obtain ⟨-, -, rfl⟩ := g16
                go_simp
                exact hK.out _ _ _ (by simp only [puts, Act.put, List.setIfInBounds_toArray, List.set_cons_zero, List.set_cons_succ] <;> rfl) ⟨hG, (fun h => f0.out h), (fun h => f1.out h), (fun h => f2.out h), (fun h => f3.out h), (fun h => f4.out h), (fun h => f5.out h), (fun h => f6.out h), (fun h => f7.out h), (fun h => f8.out h), (fun h => f9.out h), (fun h => f10.out h), (fun h => f11.out h), (fun h => f12.out h), (fun h => f13.out h), (fun h => f14.out h), (fun h => f15.out h), (fun h => f16.out h), (fun h => f17.out h), (fun h => f18.out h), (fun h => f19.out h), (fun h => f20.out h), (fun h => f21.out h), (fun _ => rfl), (fun h => f23.out h)⟩
              · intro L vs W hlen hL hD hI K hK
                obtain ⟨x0, x1, x2, x3, x4, x5, x6, x7, x8, x9, x10, x11, x12, x13, x14, x15, x16, x17, x18, x19, x20, x21, x22, x23, rfl⟩ := len24 hlen
                have hG := hI.1
                replace hI := hI.2
                have f0 := hide hI.1
                replace hI := hI.2
                have f1 := hide hI.1
                replace hI := hI.2
                have f2 := hide hI.1
                replace hI := hI.2
                have f3 := hide hI.1
                replace hI := hI.2
                have f4 := hide hI.1
                replace hI := hI.2
                have f5 := hide hI.1
                replace hI := hI.2
                have f6 := hide hI.1
                replace hI := hI.2
                have f7 := hide hI.1
                replace hI := hI.2
                have f8 := hide hI.1
                replace hI := hI.2
                have f9 := hide hI.1
                replace hI := hI.2
                have f10 := hide hI.1
                replace hI := hI.2
                have f11 := hide hI.1
                replace hI := hI.2
                have f12 := hide hI.1
                replace hI := hI.2
                have f13 := hide hI.1
                replace hI := hI.2
                have f14 := hide hI.1
                replace hI := hI.2
                have f15 := hide hI.1
                replace hI := hI.2
                have f16 := hide hI.1
                replace hI := hI.2
                have f17 := hide hI.1
                replace hI := hI.2
                have f18 := hide hI.1
                replace hI := hI.2
                have f19 := hide hI.1
                replace hI := hI.2
                have f20 := hide hI.1
                replace hI := hI.2
                have f21 := hide hI.1
                replace hI := hI.2
                have f22 := hide hI.1
                replace hI := hI.2
                have f23 := hide hI
                clear hI
                have b0 := hG.cell 0 rfl
                have b1 := hG.cell 1 rfl
                have b2 := hG.cell 2 rfl
                have g13 := f13.out (hD.on 13 (by kernel_rfl))
                obtain rfl := f22.out (hD.on 22 (by kernel_rfl))
                try simp only [puts, Act.put, List.setIfInBounds_toArray, List.set_cons_zero, List.set_cons_succ]
                obtain ⟨-, -, rfl⟩ := g13
                go_simp
                exact hK.out _ _ _ (by simp only [puts, Act.put, List.setIfInBounds_toArray, List.set_cons_zero, List.set_cons_succ] <;> rfl) ⟨hG, (fun h => f0.out h), (fun h => f1.out h), (fun h => f2.out h), (fun h => f3.out h), (fun h => f4.out h), (fun h => f5.out h), (fun h => f6.out h), (fun h => f7.out h), (fun h => f8.out h), (fun h => f9.out h), (fun h => f10.out h), (fun h => f11.out h), (fun h => f12.out h), (fun h => f13.out h), (fun h => f14.out h), (fun h => f15.out h), (fun h => f16.out h), (fun h => f17.out h), (fun h => f18.out h), (fun h => f19.out h), (fun h => f20.out h), (fun h => f21.out h), (fun h => f22.out h), (fun _ => rfl)⟩
            intro L vs W hlen hall hI
            obtain ⟨x0, x1, x2, x3, x4, x5, x6, x7, x8, x9, x10, x11, x12, x13, x14, x15, x16, x17, x18, x19, x20, x21, x22, x23, rfl⟩ := len24 hlen
            have hG := hI.1
            replace hI := hI.2
            have f0 := hide hI.1
            replace hI := hI.2
            have f1 := hide hI.1
            replace hI := hI.2
            have f2 := hide hI.1
            replace hI := hI.2
            have f3 := hide hI.1
            replace hI := hI.2
            have f4 := hide hI.1
            replace hI := hI.2
            have f5 := hide hI.1
            replace hI := hI.2
            have f6 := hide hI.1
            replace hI := hI.2
            have f7 := hide hI.1
            replace hI := hI.2
            have f8 := hide hI.1
            replace hI := hI.2
            have f9 := hide hI.1
            replace hI := hI.2
            have f10 := hide hI.1
            replace hI := hI.2
            have f11 := hide hI.1
            replace hI := hI.2
            have f12 := hide hI.1
            replace hI := hI.2
            have f13 := hide hI.1
            replace hI := hI.2
            have f14 := hide hI.1
            replace hI := hI.2
            have f15 := hide hI.1
            replace hI := hI.2
            have f16 := hide hI.1
            replace hI := hI.2
            have f17 := hide hI.1
            replace hI := hI.2
            have f18 := hide hI.1
            replace hI := hI.2
            have f19 := hide hI.1
            replace hI := hI.2
            have f20 := hide hI.1
            replace hI := hI.2
            have f21 := hide hI.1
            replace hI := hI.2
            have f22 := hide hI.1
            replace hI := hI.2
            have f23 := hide hI
            clear hI
            obtain rfl := f0.out (hall 0 (by decide))
            obtain rfl := f1.out (hall 1 (by decide))
            obtain rfl := f2.out (hall 2 (by decide))
            obtain rfl := f3.out (hall 3 (by decide))
            obtain rfl := f4.out (hall 4 (by decide))
            obtain rfl := f5.out (hall 5 (by decide))
            obtain rfl := f6.out (hall 6 (by decide))
            obtain rfl := f7.out (hall 7 (by decide))
            obtain rfl := f8.out (hall 8 (by decide))
            obtain rfl := f9.out (hall 9 (by decide))
            obtain rfl := f10.out (hall 10 (by decide))
            have g11 := f11.out (hall 11 (by decide))
            have g12 := f12.out (hall 12 (by decide))
            have g13 := f13.out (hall 13 (by decide))
            have g14 := f14.out (hall 14 (by decide))
            have g15 := f15.out (hall 15 (by decide))
            have g16 := f16.out (hall 16 (by decide))
            obtain rfl := f17.out (hall 17 (by decide))
            obtain rfl := f18.out (hall 18 (by decide))
            obtain rfl := f19.out (hall 19 (by decide))
            obtain rfl := f20.out (hall 20 (by decide))
            obtain rfl := f21.out (hall 21 (by decide))
            obtain rfl := f22.out (hall 22 (by decide))
            obtain rfl := f23.out (hall 23 (by decide))
            have hal := hide hall
            clear hall f0 f1 f2 f3 f4 f5 f6 f7 f8 f9 f10 f11 f12 f13 f14 f15 f16 f17 f18 f19 f20 f21 f22 f23
            try simp only [puts, Act.put, List.setIfInBounds_toArray, List.set_cons_zero, List.set_cons_succ]
            obtain ⟨W5, rfl⟩ : ∃ W' : World, W' = W := ⟨_, rfl⟩
            rw [hal.out 5 (by decide), hal.out 11 (by decide)] at hG
            obtain ⟨pc5, pa5, hT5, -, hbr5⟩ := hG
            obtain ⟨-, rfl⟩ := g11
            obtain ⟨-, -, rfl⟩ := g12
            obtain ⟨-, -, rfl⟩ := g13
            obtain ⟨-, -, rfl⟩ := g14
            obtain ⟨-, -, rfl⟩ := g15
            obtain ⟨-, -, rfl⟩ := g16
            go_wp2_with fail
            go_roundw
            case rel => exact ⟨k + 1, _, _, _, _, _, by omega, by omega, by go_num, hT5, hide ⟨by have := HPD.out; simp [st3, putD]; try omega, by have := HPD.out; omega⟩, hbr5⟩
            case measure => simp [intOf]; omega
          · skip
            refine wp_region_inv [some 93, some 94, some 95, some 96, some 97, some 98, some 99, some 100, some 101, some 102, some 103, some 104, some 105, some 106, some 107, some 108, some 109, some 110, some 111, some 112, some 113, some 114, some 115, some 116] (fun L vs W => match vs with | [x0, x1, x2, x3, x4, x5, x6, x7, x8, x9, x10, x11, x12, x13, x14, x15, x16, x17, x18, x19, x20, x21, x22, x23] => (TwG m w kc ka kd pd d e o s w3.heap.size [.int .i64 o, .string s, .bool true] (L 5) (L 18) (L 11) (L 20) W) ∧ (L 0 = true → x0 = .pointer (some ⟨kc.D, 0, none⟩)) ∧ (L 1 = true → x1 = .pointer (some ⟨w3.heap.size, 0, none⟩)) ∧ (L 2 = true → x2 = .int .i64 o) ∧ (L 3 = true → x3 = .pointer (some ⟨w3.heap.size, 1, none⟩)) ∧ (L 4 = true → x4 = .string s) ∧ (L 5 = true → x5 = .int .i64 0) ∧ (L 6 = true → x6 = .pointer (some ⟨ka.D, 0, none⟩)) ∧ (L 7 = true → x7 = .pointer (some ⟨w3.heap.size, 0, none⟩)) ∧ (L 8 = true → x8 = .int .i64 o) ∧ (L 9 = true → x9 = .pointer (some ⟨w3.heap.size, 1, none⟩)) ∧ (L 10 = true → x10 = .string s) ∧ (L 11 = true → L 5 = true ∧ x11 = .int .i64 0) ∧ (L 12 = true → L 11 = true ∧ L 5 = true ∧ x12 = .bool false) ∧ (L 13 = true → L 11 = true ∧ L 5 = true ∧ x13 = .bool false) ∧ (L 14 = true → L 11 = true ∧ L 5 = true ∧ x14 = .pointer (some ⟨w3.heap.size, 2, none⟩)) ∧ (L 15 = true → L 11 = true ∧ L 5 = true ∧ x15 = .bool true) ∧ (L 16 = true → L 11 = true ∧ L 5 = true ∧ x16 = .bool true) ∧ (L 17 = true → x17 = .pointer (some ⟨kc.D, 0, none⟩)) ∧ (L 18 = true → L 11 = true ∧ L 5 = true ∧ x18 = .int .i64 0) ∧ (L 19 = true → x19 = .pointer (some ⟨ka.D, 0, none⟩)) ∧ (L 20 = true → L 18 = true ∧ L 11 = true ∧ L 5 = true ∧ x20 = .int .i64 0) ∧ (L 21 = true → x21 = .bool false) ∧ (L 22 = true → x22 = .bool false) ∧ (L 23 = true → x23 = .bool false) | _ => False) [_, _, _, _, _, _, _, _, _, _, _, _, _, _, _, _, _, _, _, _, _, _, _, _] (by kernel_rfl) (by kernel_rfl) rfl (by simp only [puts, Act.put, List.setIfInBounds_toArray, List.set_cons_zero, List.set_cons_succ] <;> rfl) ?_ ?_ ?_
            · exact ⟨TwG.drew ⟨pc, pa, hT4, bW, hbr4⟩, (fun h => by cases h), (fun h => by cases h), (fun h => by cases h), (fun h => by cases h), (fun h => by cases h), (fun h => by cases h), (fun h => by cases h), (fun h => by cases h), (fun h => by cases h), (fun h => by cases h), (fun h => by cases h), (fun h => by cases h), (fun h => by cases h), (fun h => by cases h), (fun h => by cases h), (fun h => by cases h), (fun h => by cases h), (fun h => by cases h), (fun h => by cases h), (fun h => by cases h), (fun h => by cases h), (fun h => by cases h), (fun h => by cases h), (fun h => by cases h)⟩
            · refine ⟨?_, ?_, ?_, ?_, ?_, ?_, ?_, ?_, ?_, ?_, ?_, ?_, ?_, ?_, ?_, ?_, ?_, ?_, ?_, ?_, ?_, ?_, ?_, ?_, trivial⟩
              · intro L vs W hlen hL hD hI K hK
                obtain ⟨x0, x1, x2, x3, x4, x5, x6, x7, x8, x9, x10, x11, x12, x13, x14, x15, x16, x17, x18, x19, x20, x21, x22, x23, rfl⟩ := len24 hlen
                have hG := hI.1
                replace hI := hI.2
                have f0 := hide hI.1
                replace hI := hI.2
                have f1 := hide hI.1
                replace hI := hI.2
                have f2 := hide hI.1
                replace hI := hI.2
                have f3 := hide hI.1
                replace hI := hI.2
                have f4 := hide hI.1
                replace hI := hI.2
                have f5 := hide hI.1
                replace hI := hI.2
                have f6 := hide hI.1
                replace hI := hI.2
                have f7 := hide hI.1
                replace hI := hI.2
                have f8 := hide hI.1
                replace hI := hI.2
                have f9 := hide hI.1
                replace hI := hI.2
                have f10 := hide hI.1
                replace hI := hI.2
                have f11 := hide hI.1
                replace hI := hI.2
                have f12 := hide hI.1
                replace hI := hI.2
                have f13 := hide hI.1
                replace hI := hI.2
                have f14 := hide hI.1
                replace hI := hI.2
                have f15 := hide hI.1
                replace hI := hI.2
                have f16 := hide hI.1
                replace hI := hI.2
                have f17 := hide hI.1
                replace hI := hI.2
                have f18 := hide hI.1
                replace hI := hI.2
                have f19 := hide hI.1
                replace hI := hI.2
                have f20 := hide hI.1
                replace hI := hI.2
                have f21 := hide hI.1
                replace hI := hI.2
                have f22 := hide hI.1
                replace hI := hI.2
                have f23 := hide hI
                clear hI
                have b0 := hG.cell 0 rfl
                have b1 := hG.cell 1 rfl
                have b2 := hG.cell 2 rfl
                try simp only [puts, Act.put, List.setIfInBounds_toArray, List.set_cons_zero, List.set_cons_succ]
                try go_simp
                exact hK.out _ _ _ (by simp only [puts, Act.put, List.setIfInBounds_toArray, List.set_cons_zero, List.set_cons_succ] <;> rfl) ⟨hG, (fun _ => rfl), (fun h => f1.out h), (fun h => f2.out h), (fun h => f3.out h), (fun h => f4.out h), (fun h => f5.out h), (fun h => f6.out h), (fun h => f7.out h), (fun h => f8.out h), (fun h => f9.out h), (fun h => f10.out h), (fun h => f11.out h), (fun h => f12.out h), (fun h => f13.out h), (fun h => f14.out h), (fun h => f15.out h), (fun h => f16.out h), (fun h => f17.out h), (fun h => f18.out h), (fun h => f19.out h), (fun h => f20.out h), (fun h => f21.out h), (fun h => f22.out h), (fun h => f23.out h)⟩
              · intro L vs W hlen hL hD hI K hK
                obtain ⟨x0, x1, x2, x3, x4, x5, x6, x7, x8, x9, x10, x11, x12, x13, x14, x15, x16, x17, x18, x19, x20, x21, x22, x23, rfl⟩ := len24 hlen
                have hG := hI.1
                replace hI := hI.2
                have f0 := hide hI.1
                replace hI := hI.2
                have f1 := hide hI.1
                replace hI := hI.2
                have f2 := hide hI.1
                replace hI := hI.2
                have f3 := hide hI.1
                replace hI := hI.2
                have f4 := hide hI.1
                replace hI := hI.2
                have f5 := hide hI.1
                replace hI := hI.2
                have f6 := hide hI.1
                replace hI := hI.2
                have f7 := hide hI.1
                replace hI := hI.2
                have f8 := hide hI.1
                replace hI := hI.2
                have f9 := hide hI.1
                replace hI := hI.2
                have f10 := hide hI.1
                replace hI := hI.2
                have f11 := hide hI.1
                replace hI := hI.2
                have f12 := hide hI.1
                replace hI := hI.2
                have f13 := hide hI.1
                replace hI := hI.2
                have f14 := hide hI.1
                replace hI := hI.2
                have f15 := hide hI.1
                replace hI := hI.2
                have f16 := hide hI.1
                replace hI := hI.2
                have f17 := hide hI.1
                replace hI := hI.2
                have f18 := hide hI.1
                replace hI := hI.2
                have f19 := hide hI.1
                replace hI := hI.2
                have f20 := hide hI.1
                replace hI := hI.2
                have f21 := hide hI.1
                replace hI := hI.2
                have f22 := hide hI.1
                replace hI := hI.2
                have f23 := hide hI
                clear hI
                have b0 := hG.cell 0 rfl
                have b1 := hG.cell 1 rfl
                have b2 := hG.cell 2 rfl
                try simp only [puts, Act.put, List.setIfInBounds_toArray, List.set_cons_zero, List.set_cons_succ]
                try go_simp
                exact hK.out _ _ _ (by simp only [puts, Act.put, List.setIfInBounds_toArray, List.set_cons_zero, List.set_cons_succ] <;> rfl) ⟨hG, (fun h => f0.out h), (fun _ => rfl), (fun h => f2.out h), (fun h => f3.out h), (fun h => f4.out h), (fun h => f5.out h), (fun h => f6.out h), (fun h => f7.out h), (fun h => f8.out h), (fun h => f9.out h), (fun h => f10.out h), (fun h => f11.out h), (fun h => f12.out h), (fun h => f13.out h), (fun h => f14.out h), (fun h => f15.out h), (fun h => f16.out h), (fun h => f17.out h), (fun h => f18.out h), (fun h => f19.out h), (fun h => f20.out h), (fun h => f21.out h), (fun h => f22.out h), (fun h => f23.out h)⟩
              · intro L vs W hlen hL hD hI K hK
                obtain ⟨x0, x1, x2, x3, x4, x5, x6, x7, x8, x9, x10, x11, x12, x13, x14, x15, x16, x17, x18, x19, x20, x21, x22, x23, rfl⟩ := len24 hlen
                have hG := hI.1
                replace hI := hI.2
                have f0 := hide hI.1
                replace hI := hI.2
                have f1 := hide hI.1
                replace hI := hI.2
                have f2 := hide hI.1
                replace hI := hI.2
                have f3 := hide hI.1
                replace hI := hI.2
                have f4 := hide hI.1
                replace hI := hI.2
                have f5 := hide hI.1
                replace hI := hI.2
                have f6 := hide hI.1
                replace hI := hI.2
                have f7 := hide hI.1
                replace hI := hI.2
                have f8 := hide hI.1
                replace hI := hI.2
                have f9 := hide hI.1
                replace hI := hI.2
                have f10 := hide hI.1
                replace hI := hI.2
                have f11 := hide hI.1
                replace hI := hI.2
                have f12 := hide hI.1
                replace hI := hI.2
                have f13 := hide hI.1
                replace hI := hI.2
                have f14 := hide hI.1
                replace hI := hI.2
                have f15 := hide hI.1
                replace hI := hI.2
                have f16 := hide hI.1
                replace hI := hI.2
                have f17 := hide hI.1
                replace hI := hI.2
                have f18 := hide hI.1
                replace hI := hI.2
                have f19 := hide hI.1
                replace hI := hI.2
                have f20 := hide hI.1
                replace hI := hI.2
                have f21 := hide hI.1
                replace hI := hI.2
                have f22 := hide hI.1
                replace hI := hI.2
                have f23 := hide hI
                clear hI
                have b0 := hG.cell 0 rfl
                have b1 := hG.cell 1 rfl
                have b2 := hG.cell 2 rfl
                obtain rfl := f1.out (hD.on 1 (by kernel_rfl))
                try simp only [puts, Act.put, List.setIfInBounds_toArray, List.set_cons_zero, List.set_cons_succ]
                try go_simp
                exact hK.out _ _ _ (by simp only [puts, Act.put, List.setIfInBounds_toArray, List.set_cons_zero, List.set_cons_succ] <;> rfl) ⟨hG, (fun h => f0.out h), (fun h => f1.out h), (fun _ => rfl), (fun h => f3.out h), (fun h => f4.out h), (fun h => f5.out h), (fun h => f6.out h), (fun h => f7.out h), (fun h => f8.out h), (fun h => f9.out h), (fun h => f10.out h), (fun h => f11.out h), (fun h => f12.out h), (fun h => f13.out h), (fun h => f14.out h), (fun h => f15.out h), (fun h => f16.out h), (fun h => f17.out h), (fun h => f18.out h), (fun h => f19.out h), (fun h => f20.out h), (fun h => f21.out h), (fun h => f22.out h), (fun h => f23.out h)⟩
              · intro L vs W hlen hL hD hI K hK
                obtain ⟨x0, x1, x2, x3, x4, x5, x6, x7, x8, x9, x10, x11, x12, x13, x14, x15, x16, x17, x18, x19, x20, x21, x22, x23, rfl⟩ := len24 hlen
                have hG := hI.1
                replace hI := hI.2
                have f0 := hide hI.1
                replace hI := hI.2
                have f1 := hide hI.1
                replace hI := hI.2
                have f2 := hide hI.1
                replace hI := hI.2
                have f3 := hide hI.1
                replace hI := hI.2
                have f4 := hide hI.1
                replace hI := hI.2
                have f5 := hide hI.1
                replace hI := hI.2
                have f6 := hide hI.1
                replace hI := hI.2
                have f7 := hide hI.1
                replace hI := hI.2
                have f8 := hide hI.1
                replace hI := hI.2
                have f9 := hide hI.1
                replace hI := hI.2
                have f10 := hide hI.1
                replace hI := hI.2
                have f11 := hide hI.1
                replace hI := hI.2
                have f12 := hide hI.1
                replace hI := hI.2
                have f13 := hide hI.1
                replace hI := hI.2
                have f14 := hide hI.1
                replace hI := hI.2
                have f15 := hide hI.1
                replace hI := hI.2
                have f16 := hide hI.1
                replace hI := hI.2
                have f17 := hide hI.1
                replace hI := hI.2
                have f18 := hide hI.1
                replace hI := hI.2
                have f19 := hide hI.1
                replace hI := hI.2
                have f20 := hide hI.1
                replace hI := hI.2
                have f21 := hide hI.1
                replace hI := hI.2
                have f22 := hide hI.1
                replace hI := hI.2
                have f23 := hide hI
                clear hI
                have b0 := hG.cell 0 rfl
                have b1 := hG.cell 1 rfl
                have b2 := hG.cell 2 rfl
                try simp only [puts, Act.put, List.setIfInBounds_toArray, List.set_cons_zero, List.set_cons_succ]
                try go_simp
                exact hK.out _ _ _ (by simp only [puts, Act.put, List.setIfInBounds_toArray, List.set_cons_zero, List.set_cons_succ] <;> rfl) ⟨hG, (fun h => f0.out h), (fun h => f1.out h), (fun h => f2.out h), (fun _ => rfl), (fun h => f4.out h), (fun h => f5.out h), (fun h => f6.out h), (fun h => f7.out h), (fun h => f8.out h), (fun h => f9.out h), (fun h => f10.out h), (fun h => f11.out h), (fun h => f12.out h), (fun h => f13.out h), (fun h => f14.out h), (fun h => f15.out h), (fun h => f16.out h), (fun h => f17.out h), (fun h => f18.out h), (fun h => f19.out h), (fun h => f20.out h), (fun h => f21.out h), (fun h => f22.out h), (fun h => f23.out h)⟩
              · intro L vs W hlen hL hD hI K hK
                obtain ⟨x0, x1, x2, x3, x4, x5, x6, x7, x8, x9, x10, x11, x12, x13, x14, x15, x16, x17, x18, x19, x20, x21, x22, x23, rfl⟩ := len24 hlen
                have hG := hI.1
                replace hI := hI.2
                have f0 := hide hI.1
                replace hI := hI.2
                have f1 := hide hI.1
                replace hI := hI.2
                have f2 := hide hI.1
                replace hI := hI.2
                have f3 := hide hI.1
                replace hI := hI.2
                have f4 := hide hI.1
                replace hI := hI.2
                have f5 := hide hI.1
                replace hI := hI.2
                have f6 := hide hI.1
                replace hI := hI.2
                have f7 := hide hI.1
                replace hI := hI.2
                have f8 := hide hI.1
                replace hI := hI.2
                have f9 := hide hI.1
                replace hI := hI.2
                have f10 := hide hI.1
                replace hI := hI.2
                have f11 := hide hI.1
                replace hI := hI.2
                have f12 := hide hI.1
                replace hI := hI.2
                have f13 := hide hI.1
                replace hI := hI.2
                have f14 := hide hI.1
                replace hI := hI.2
                have f15 := hide hI.1
                replace hI := hI.2
                have f16 := hide hI.1
                replace hI := hI.2
                have f17 := hide hI.1
                replace hI := hI.2
                have f18 := hide hI.1
                replace hI := hI.2
                have f19 := hide hI.1
                replace hI := hI.2
                have f20 := hide hI.1
                replace hI := hI.2
                have f21 := hide hI.1
                replace hI := hI.2
                have f22 := hide hI.1
                replace hI := hI.2
                have f23 := hide hI
                clear hI
                have b0 := hG.cell 0 rfl
                have b1 := hG.cell 1 rfl
                have b2 := hG.cell 2 rfl
                obtain rfl := f3.out (hD.on 3 (by kernel_rfl))
                try simp only [puts, Act.put, List.setIfInBounds_toArray, List.set_cons_zero, List.set_cons_succ]
                try go_simp
                exact hK.out _ _ _ (by simp only [puts, Act.put, List.setIfInBounds_toArray, List.set_cons_zero, List.set_cons_succ] <;> rfl) ⟨hG, (fun h => f0.out h), (fun h => f1.out h), (fun h => f2.out h), (fun h => f3.out h), (fun _ => rfl), (fun h => f5.out h), (fun h => f6.out h), (fun h => f7.out h), (fun h => f8.out h), (fun h => f9.out h), (fun h => f10.out h), (fun h => f11.out h), (fun h => f12.out h), (fun h => f13.out h), (fun h => f14.out h), (fun h => f15.out h), (fun h => f16.out h), (fun h => f17.out h), (fun h => f18.out h), (fun h => f19.out h), (fun h => f20.out h), (fun h => f21.out h), (fun h => f22.out h), (fun h => f23.out h)⟩
              · intro L vs W hlen hL hD hI K hK
                obtain ⟨x0, x1, x2, x3, x4, x5, x6, x7, x8, x9, x10, x11, x12, x13, x14, x15, x16, x17, x18, x19, x20, x21, x22, x23, rfl⟩ := len24 hlen
                have hG := hI.1
                replace hI := hI.2
                have f0 := hide hI.1
                replace hI := hI.2
                have f1 := hide hI.1
                replace hI := hI.2
                have f2 := hide hI.1
                replace hI := hI.2
                have f3 := hide hI.1
                replace hI := hI.2
                have f4 := hide hI.1
                replace hI := hI.2
                have f5 := hide hI.1
                replace hI := hI.2
                have f6 := hide hI.1
                replace hI := hI.2
                have f7 := hide hI.1
                replace hI := hI.2
                have f8 := hide hI.1
                replace hI := hI.2
                have f9 := hide hI.1
                replace hI := hI.2
                have f10 := hide hI.1
                replace hI := hI.2
                have f11 := hide hI.1
                replace hI := hI.2
                have f12 := hide hI.1
                replace hI := hI.2
                have f13 := hide hI.1
                replace hI := hI.2
                have f14 := hide hI.1
                replace hI := hI.2
                have f15 := hide hI.1
                replace hI := hI.2
                have f16 := hide hI.1
                replace hI := hI.2
                have f17 := hide hI.1
                replace hI := hI.2
                have f18 := hide hI.1
                replace hI := hI.2
                have f19 := hide hI.1
                replace hI := hI.2
                have f20 := hide hI.1
                replace hI := hI.2
                have f21 := hide hI.1
                replace hI := hI.2
                have f22 := hide hI.1
                replace hI := hI.2
                have f23 := hide hI
                clear hI
                have b0 := hG.cell 0 rfl
                have b1 := hG.cell 1 rfl
                have b2 := hG.cell 2 rfl
                obtain rfl := f0.out (hD.on 0 (by kernel_rfl))
                obtain rfl := f2.out (hD.on 2 (by kernel_rfl))
                obtain rfl := f4.out (hD.on 4 (by kernel_rfl))
                try simp only [puts, Act.put, List.setIfInBounds_toArray, List.set_cons_zero, List.set_cons_succ]
                try go_simp
                have h18 : L 18 = false := Bool.eq_false_iff.2 (fun h => absurd ((f18.out h).2.1.symm.trans hL) (by decide))
                rw [hL, h18] at hG
                refine (hG.writeC (by omega) HFIT.out (by have := HPD.out; omega)).mono ?_
                rintro e W' ⟨rfl, hG2⟩
                try go_simp
                exact hK.out _ _ _ (by simp only [puts, Act.put, List.setIfInBounds_toArray, List.set_cons_zero, List.set_cons_succ] <;> rfl) ⟨(by show TwG _ _ _ _ _ _ _ _ _ _ _ _ true (L 18) (L 11) (L 20) _; rw [h18]; exact hG2), (fun h => f0.out h), (fun h => f1.out h), (fun h => f2.out h), (fun h => f3.out h), (fun h => f4.out h), (fun _ => rfl), (fun h => f6.out h), (fun h => f7.out h), (fun h => f8.out h), (fun h => f9.out h), (fun h => f10.out h), (fun h => (fun h => absurd (h.1.symm.trans hL) (by decide)) (f11.out h)), (fun h => (fun h => absurd (h.2.1.symm.trans hL) (by decide)) (f12.out h)), (fun h => (fun h => absurd (h.2.1.symm.trans hL) (by decide)) (f13.out h)), (fun h => (fun h => absurd (h.2.1.symm.trans hL) (by decide)) (f14.out h)), (fun h => (fun h => absurd (h.2.1.symm.trans hL) (by decide)) (f15.out h)), (fun h => (fun h => absurd (h.2.1.symm.trans hL) (by decide)) (f16.out h)), (fun h => f17.out h), (fun h => (fun h => absurd (h.2.1.symm.trans hL) (by decide)) (f18.out h)), (fun h => f19.out h), (fun h => (fun h => absurd (h.2.2.1.symm.trans hL) (by decide)) (f20.out h)), (fun h => f21.out h), (fun h => f22.out h), (fun h => f23.out h)⟩
              · intro L vs W hlen hL hD hI K hK
                obtain ⟨x0, x1, x2, x3, x4, x5, x6, x7, x8, x9, x10, x11, x12, x13, x14, x15, x16, x17, x18, x19, x20, x21, x22, x23, rfl⟩ := len24 hlen
                have hG := hI.1
                replace hI := hI.2
                have f0 := hide hI.1
                replace hI := hI.2
                have f1 := hide hI.1
                replace hI := hI.2
                have f2 := hide hI.1
                replace hI := hI.2
                have f3 := hide hI.1
                replace hI := hI.2
                have f4 := hide hI.1
                replace hI := hI.2
                have f5 := hide hI.1
                replace hI := hI.2
                have f6 := hide hI.1
                replace hI := hI.2
                have f7 := hide hI.1
                replace hI := hI.2
                have f8 := hide hI.1
                replace hI := hI.2
                have f9 := hide hI.1
                replace hI := hI.2
                have f10 := hide hI.1
                replace hI := hI.2
                have f11 := hide hI.1
                replace hI := hI.2
                have f12 := hide hI.1
                replace hI := hI.2
                have f13 := hide hI.1
                replace hI := hI.2
                have f14 := hide hI.1
                replace hI := hI.2
                have f15 := hide hI.1
                replace hI := hI.2
                have f16 := hide hI.1
                replace hI := hI.2
                have f17 := hide hI.1
                replace hI := hI.2
                have f18 := hide hI.1
                replace hI := hI.2
                have f19 := hide hI.1
                replace hI := hI.2
                have f20 := hide hI.1
                replace hI := hI.2
                have f21 := hide hI.1
                replace hI := hI.2
                have f22 := hide hI.1
                replace hI := hI.2
                have f23 := hide hI
                clear hI
                have b0 := hG.cell 0 rfl
                have b1 := hG.cell 1 rfl
                have b2 := hG.cell 2 rfl
                try simp only [puts, Act.put, List.setIfInBounds_toArray, List.set_cons_zero, List.set_cons_succ]
                try go_simp
                exact hK.out _ _ _ (by simp only [puts, Act.put, List.setIfInBounds_toArray, List.set_cons_zero, List.set_cons_succ] <;> rfl) ⟨hG, (fun h => f0.out h), (fun h => f1.out h), (fun h => f2.out h), (fun h => f3.out h), (fun h => f4.out h), (fun h => f5.out h), (fun _ => rfl), (fun h => f7.out h), (fun h => f8.out h), (fun h => f9.out h), (fun h => f10.out h), (fun h => f11.out h), (fun h => f12.out h), (fun h => f13.out h), (fun h => f14.out h), (fun h => f15.out h), (fun h => f16.out h), (fun h => f17.out h), (fun h => f18.out h), (fun h => f19.out h), (fun h => f20.out h), (fun h => f21.out h), (fun h => f22.out h), (fun h => f23.out h)⟩
              · intro L vs W hlen hL hD hI K hK
                obtain ⟨x0, x1, x2, x3, x4, x5, x6, x7, x8, x9, x10, x11, x12, x13, x14, x15, x16, x17, x18, x19, x20, x21, x22, x23, rfl⟩ := len24 hlen
                have hG := hI.1
                replace hI := hI.2
                have f0 := hide hI.1
                replace hI := hI.2
                have f1 := hide hI.1
                replace hI := hI.2
                have f2 := hide hI.1
                replace hI := hI.2
                have f3 := hide hI.1
                replace hI := hI.2
                have f4 := hide hI.1
                replace hI := hI.2
                have f5 := hide hI.1
                replace hI := hI.2
                have f6 := hide hI.1
                replace hI := hI.2
                have f7 := hide hI.1
                replace hI := hI.2
                have f8 := hide hI.1
                replace hI := hI.2
                have f9 := hide hI.1
                replace hI := hI.2
                have f10 := hide hI.1
                replace hI := hI.2
                have f11 := hide hI.1
                replace hI := hI.2
                have f12 := hide hI.1
                replace hI := hI.2
                have f13 := hide hI.1
                replace hI := hI.2
                have f14 := hide hI.1
                replace hI := hI.2
                have f15 := hide hI.1
                replace hI := hI.2
                have f16 := hide hI.1
                replace hI := hI.2
                have f17 := hide hI.1
                replace hI := hI.2
                have f18 := hide hI.1
                replace hI := hI.2
                have f19 := hide hI.1
                replace hI := hI.2
                have f20 := hide hI.1
                replace hI := hI.2
                have f21 := hide hI.1
                replace hI := hI.2
                have f22 := hide hI.1
                replace hI := hI.2
                have f23 := hide hI
                clear hI
                have b0 := hG.cell 0 rfl
                have b1 := hG.cell 1 rfl
                have b2 := hG.cell 2 rfl
                try simp only [puts, Act.put, List.setIfInBounds_toArray, List.set_cons_zero, List.set_cons_succ]
                try go_simp
                exact hK.out _ _ _ (by simp only [puts, Act.put, List.setIfInBounds_toArray, List.set_cons_zero, List.set_cons_succ] <;> rfl) ⟨hG, (fun h => f0.out h), (fun h => f1.out h), (fun h => f2.out h), (fun h => f3.out h), (fun h => f4.out h), (fun h => f5.out h), (fun h => f6.out h), (fun _ => rfl), (fun h => f8.out h), (fun h => f9.out h), (fun h => f10.out h), (fun h => f11.out h), (fun h => f12.out h), (fun h => f13.out h), (fun h => f14.out h), (fun h => f15.out h), (fun h => f16.out h), (fun h => f17.out h), (fun h => f18.out h), (fun h => f19.out h), (fun h => f20.out h), (fun h => f21.out h), (fun h => f22.out h), (fun h => f23.out h)⟩
              · intro L vs W hlen hL hD hI K hK
                obtain ⟨x0, x1, x2, x3, x4, x5, x6, x7, x8, x9, x10, x11, x12, x13, x14, x15, x16, x17, x18, x19, x20, x21, x22, x23, rfl⟩ := len24 hlen
                have hG := hI.1
                replace hI := hI.2
                have f0 := hide hI.1
                replace hI := hI.2
                have f1 := hide hI.1
                replace hI := hI.2
                have f2 := hide hI.1
                replace hI := hI.2
                have f3 := hide hI.1
                replace hI := hI.2
                have f4 := hide hI.1
                replace hI := hI.2
                have f5 := hide hI.1
                replace hI := hI.2
                have f6 := hide hI.1
                replace hI := hI.2
                have f7 := hide hI.1
                replace hI := hI.2
                have f8 := hide hI.1
                replace hI := hI.2
                have f9 := hide hI.1
                replace hI := hI.2
                have f10 := hide hI.1
                replace hI := hI.2
                have f11 := hide hI.1
                replace hI := hI.2
                have f12 := hide hI.1
                replace hI := hI.2
                have f13 := hide hI.1
                replace hI := hI.2
                have f14 := hide hI.1
                replace hI := hI.2
                have f15 := hide hI.1
                replace hI := hI.2
                have f16 := hide hI.1
                replace hI := hI.2
                have f17 := hide hI.1
                replace hI := hI.2
                have f18 := hide hI.1
                replace hI := hI.2
                have f19 := hide hI.1
                replace hI := hI.2
                have f20 := hide hI.1
                replace hI := hI.2
                have f21 := hide hI.1
                replace hI := hI.2
                have f22 := hide hI.1
                replace hI := hI.2
                have f23 := hide hI
                clear hI
                have b0 := hG.cell 0 rfl
                have b1 := hG.cell 1 rfl
                have b2 := hG.cell 2 rfl
                obtain rfl := f7.out (hD.on 7 (by kernel_rfl))
                try simp only [puts, Act.put, List.setIfInBounds_toArray, List.set_cons_zero, List.set_cons_succ]
                try go_simp
                exact hK.out _ _ _ (by simp only [puts, Act.put, List.setIfInBounds_toArray, List.set_cons_zero, List.set_cons_succ] <;> rfl) ⟨hG, (fun h => f0.out h), (fun h => f1.out h), (fun h => f2.out h), (fun h => f3.out h), (fun h => f4.out h), (fun h => f5.out h), (fun h => f6.out h), (fun h => f7.out h), (fun _ => rfl), (fun h => f9.out h), (fun h => f10.out h), (fun h => f11.out h), (fun h => f12.out h), (fun h => f13.out h), (fun h => f14.out h), (fun h => f15.out h), (fun h => f16.out h), (fun h => f17.out h), (fun h => f18.out h), (fun h => f19.out h), (fun h => f20.out h), (fun h => f21.out h), (fun h => f22.out h), (fun h => f23.out h)⟩
              · intro L vs W hlen hL hD hI K hK
                obtain ⟨x0, x1, x2, x3, x4, x5, x6, x7, x8, x9, x10, x11, x12, x13, x14, x15, x16, x17, x18, x19, x20, x21, x22, x23, rfl⟩ := len24 hlen
                have hG := hI.1
                replace hI := hI.2
                have f0 := hide hI.1
                replace hI := hI.2
                have f1 := hide hI.1
                replace hI := hI.2
                have f2 := hide hI.1
                replace hI := hI.2
                have f3 := hide hI.1
                replace hI := hI.2
                have f4 := hide hI.1
                replace hI := hI.2
                have f5 := hide hI.1
                replace hI := hI.2
                have f6 := hide hI.1
                replace hI := hI.2
                have f7 := hide hI.1
                replace hI := hI.2
                have f8 := hide hI.1
                replace hI := hI.2
                have f9 := hide hI.1
                replace hI := hI.2
                have f10 := hide hI.1
                replace hI := hI.2
                have f11 := hide hI.1
                replace hI := hI.2
                have f12 := hide hI.1
                replace hI := hI.2
                have f13 := hide hI.1
                replace hI := hI.2
                have f14 := hide hI.1
                replace hI := hI.2
                have f15 := hide hI.1
                replace hI := hI.2
                have f16 := hide hI.1
                replace hI := hI.2
                have f17 := hide hI.1
                replace hI := hI.2
                have f18 := hide hI.1
                replace hI := hI.2
                have f19 := hide hI.1
                replace hI := hI.2
                have f20 := hide hI.1
                replace hI := hI.2
                have f21 := hide hI.1
                replace hI := hI.2
                have f22 := hide hI.1
                replace hI := hI.2
                have f23 := hide hI
                clear hI
                have b0 := hG.cell 0 rfl
                have b1 := hG.cell 1 rfl
                have b2 := hG.cell 2 rfl
                try simp only [puts, Act.put, List.setIfInBounds_toArray, List.set_cons_zero, List.set_cons_succ]
                try go_simp
                exact hK.out _ _ _ (by simp only [puts, Act.put, List.setIfInBounds_toArray, List.set_cons_zero, List.set_cons_succ] <;> rfl) ⟨hG, (fun h => f0.out h), (fun h => f1.out h), (fun h => f2.out h), (fun h => f3.out h), (fun h => f4.out h), (fun h => f5.out h), (fun h => f6.out h), (fun h => f7.out h), (fun h => f8.out h), (fun _ => rfl), (fun h => f10.out h), (fun h => f11.out h), (fun h => f12.out h), (fun h => f13.out h), (fun h => f14.out h), (fun h => f15.out h), (fun h => f16.out h), (fun h => f17.out h), (fun h => f18.out h), (fun h => f19.out h), (fun h => f20.out h), (fun h => f21.out h), (fun h => f22.out h), (fun h => f23.out h)⟩
              · intro L vs W hlen hL hD hI K hK
                obtain ⟨x0, x1, x2, x3, x4, x5, x6, x7, x8, x9, x10, x11, x12, x13, x14, x15, x16, x17, x18, x19, x20, x21, x22, x23, rfl⟩ := len24 hlen
                have hG := hI.1
                replace hI := hI.2
                have f0 := hide hI.1
                replace hI := hI.2
                have f1 := hide hI.1
                replace hI := hI.2
                have f2 := hide hI.1
                replace hI := hI.2
                have f3 := hide hI.1
                replace hI := hI.2
                have f4 := hide hI.1
                replace hI := hI.2
                have f5 := hide hI.1
                replace hI := hI.2
                have f6 := hide hI.1
                replace hI := hI.2
                have f7 := hide hI.1
                replace hI := hI.2
                have f8 := hide hI.1
                replace hI := hI.2
                have f9 := hide hI.1
                replace hI := hI.2
                have f10 := hide hI.1
                replace hI := hI.2
                have f11 := hide hI.1
                replace hI := hI.2
                have f12 := hide hI.1
                replace hI := hI.2
                have f13 := hide hI.1
                replace hI := hI.2
                have f14 := hide hI.1
                replace hI := hI.2
                have f15 := hide hI.1
                replace hI := hI.2
                have f16 := hide hI.1
                replace hI := hI.2
                have f17 := hide hI.1
                replace hI := hI.2
                have f18 := hide hI.1
                replace hI := hI.2
                have f19 := hide hI.1
                replace hI := hI.2
                have f20 := hide hI.1
                replace hI := hI.2
                have f21 := hide hI.1
                replace hI := hI.2
                have f22 := hide hI.1
                replace hI := hI.2
                have f23 := hide hI
                clear hI
                have b0 := hG.cell 0 rfl
                have b1 := hG.cell 1 rfl
                have b2 := hG.cell 2 rfl
                obtain rfl := f9.out (hD.on 9 (by kernel_rfl))
                try simp only [puts, Act.put, List.setIfInBounds_toArray, List.set_cons_zero, List.set_cons_succ]
                try go_simp
                exact hK.out _ _ _ (by simp only [puts, Act.put, List.setIfInBounds_toArray, List.set_cons_zero, List.set_cons_succ] <;> rfl) ⟨hG, (fun h => f0.out h), (fun h => f1.out h), (fun h => f2.out h), (fun h => f3.out h), (fun h => f4.out h), (fun h => f5.out h), (fun h => f6.out h), (fun h => f7.out h), (fun h => f8.out h), (fun h => f9.out h), (fun _ => rfl), (fun h => f11.out h), (fun h => f12.out h), (fun h => f13.out h), (fun h => f14.out h), (fun h => f15.out h), (fun h => f16.out h), (fun h => f17.out h), (fun h => f18.out h), (fun h => f19.out h), (fun h => f20.out h), (fun h => f21.out h), (fun h => f22.out h), (fun h => f23.out h)⟩
              · intro L vs W hlen hL hD hI K hK
                obtain ⟨x0, x1, x2, x3, x4, x5, x6, x7, x8, x9, x10, x11, x12, x13, x14, x15, x16, x17, x18, x19, x20, x21, x22, x23, rfl⟩ := len24 hlen
                have hG := hI.1
                replace hI := hI.2
                have f0 := hide hI.1
                replace hI := hI.2
                have f1 := hide hI.1
                replace hI := hI.2
                have f2 := hide hI.1
                replace hI := hI.2
                have f3 := hide hI.1
                replace hI := hI.2
                have f4 := hide hI.1
                replace hI := hI.2
                have f5 := hide hI.1
                replace hI := hI.2
                have f6 := hide hI.1
                replace hI := hI.2
                have f7 := hide hI.1
                replace hI := hI.2
                have f8 := hide hI.1
                replace hI := hI.2
                have f9 := hide hI.1
                replace hI := hI.2
                have f10 := hide hI.1
                replace hI := hI.2
                have f11 := hide hI.1
                replace hI := hI.2
                have f12 := hide hI.1
                replace hI := hI.2
                have f13 := hide hI.1
                replace hI := hI.2
                have f14 := hide hI.1
                replace hI := hI.2
                have f15 := hide hI.1
                replace hI := hI.2
                have f16 := hide hI.1
                replace hI := hI.2
                have f17 := hide hI.1
                replace hI := hI.2
                have f18 := hide hI.1
                replace hI := hI.2
                have f19 := hide hI.1
                replace hI := hI.2
                have f20 := hide hI.1
                replace hI := hI.2
                have f21 := hide hI.1
                replace hI := hI.2
                have f22 := hide hI.1
                replace hI := hI.2
                have f23 := hide hI
                clear hI
                have b0 := hG.cell 0 rfl
                have b1 := hG.cell 1 rfl
                have b2 := hG.cell 2 rfl
                obtain rfl := f6.out (hD.on 6 (by kernel_rfl))
                obtain rfl := f8.out (hD.on 8 (by kernel_rfl))
                obtain rfl := f10.out (hD.on 10 (by kernel_rfl))
                try simp only [puts, Act.put, List.setIfInBounds_toArray, List.set_cons_zero, List.set_cons_succ]
                try go_simp
                have h20 : L 20 = false := Bool.eq_false_iff.2 (fun h => absurd ((f20.out h).2.1.symm.trans hL) (by decide))
                rw [hL, h20] at hG
                refine (hG.writeA (by omega) HFIT.out (by have := HPD.out; omega)).mono ?_
                rintro e W' ⟨rfl, hG2⟩
                try go_simp
                exact hK.out _ _ _ (by simp only [puts, Act.put, List.setIfInBounds_toArray, List.set_cons_zero, List.set_cons_succ] <;> rfl) ⟨(by show TwG _ _ _ _ _ _ _ _ _ _ _ _ (L 5) (L 18) true (L 20) _; rw [h20]; exact hG2), (fun h => f0.out h), (fun h => f1.out h), (fun h => f2.out h), (fun h => f3.out h), (fun h => f4.out h), (fun h => f5.out h), (fun h => f6.out h), (fun h => f7.out h), (fun h => f8.out h), (fun h => f9.out h), (fun h => f10.out h), (fun _ => ⟨hD.on 5 (by kernel_rfl), rfl⟩), (fun h => (fun h => absurd (h.1.symm.trans hL) (by decide)) (f12.out h)), (fun h => (fun h => absurd (h.1.symm.trans hL) (by decide)) (f13.out h)), (fun h => (fun h => absurd (h.1.symm.trans hL) (by decide)) (f14.out h)), (fun h => (fun h => absurd (h.1.symm.trans hL) (by decide)) (f15.out h)), (fun h => (fun h => absurd (h.1.symm.trans hL) (by decide)) (f16.out h)), (fun h => f17.out h), (fun h => (fun h => absurd (h.1.symm.trans hL) (by decide)) (f18.out h)), (fun h => f19.out h), (fun h => (fun h => absurd (h.2.1.symm.trans hL) (by decide)) (f20.out h)), (fun h => f21.out h), (fun h => f22.out h), (fun h => f23.out h)⟩
              · intro L vs W hlen hL hD hI K hK
                obtain ⟨x0, x1, x2, x3, x4, x5, x6, x7, x8, x9, x10, x11, x12, x13, x14, x15, x16, x17, x18, x19, x20, x21, x22, x23, rfl⟩ := len24 hlen
                have hG := hI.1
                replace hI := hI.2
                have f0 := hide hI.1
                replace hI := hI.2
                have f1 := hide hI.1
                replace hI := hI.2
                have f2 := hide hI.1
                replace hI := hI.2
                have f3 := hide hI.1
                replace hI := hI.2
                have f4 := hide hI.1
                replace hI := hI.2
                have f5 := hide hI.1
                replace hI := hI.2
                have f6 := hide hI.1
                replace hI := hI.2
                have f7 := hide hI.1
                replace hI := hI.2
                have f8 := hide hI.1
                replace hI := hI.2
                have f9 := hide hI.1
                replace hI := hI.2
                have f10 := hide hI.1
                replace hI := hI.2
                have f11 := hide hI.1
                replace hI := hI.2
                have f12 := hide hI.1
                replace hI := hI.2
                have f13 := hide hI.1
                replace hI := hI.2
                have f14 := hide hI.1
                replace hI := hI.2
                have f15 := hide hI.1
                replace hI := hI.2
                have f16 := hide hI.1
                replace hI := hI.2
                have f17 := hide hI.1
                replace hI := hI.2
                have f18 := hide hI.1
                replace hI := hI.2
                have f19 := hide hI.1
                replace hI := hI.2
                have f20 := hide hI.1
                replace hI := hI.2
                have f21 := hide hI.1
                replace hI := hI.2
                have f22 := hide hI.1
                replace hI := hI.2
                have f23 := hide hI
                clear hI
                have b0 := hG.cell 0 rfl
                have b1 := hG.cell 1 rfl
                have b2 := hG.cell 2 rfl
                obtain rfl := f5.out (hD.on 5 (by kernel_rfl))
                have g11 := f11.out (hD.on 11 (by kernel_rfl))
                try simp only [puts, Act.put, List.setIfInBounds_toArray, List.set_cons_zero, List.set_cons_succ]
                obtain ⟨-, rfl⟩ := g11
                go_simp
                exact hK.out _ _ _ (by simp only [puts, Act.put, List.setIfInBounds_toArray, List.set_cons_zero, List.set_cons_succ] <;> rfl) ⟨hG, (fun h => f0.out h), (fun h => f1.out h), (fun h => f2.out h), (fun h => f3.out h), (fun h => f4.out h), (fun h => f5.out h), (fun h => f6.out h), (fun h => f7.out h), (fun h => f8.out h), (fun h => f9.out h), (fun h => f10.out h), (fun h => f11.out h), (fun _ => ⟨hD.on 11 (by kernel_rfl), hD.on 5 (by kernel_rfl), rfl⟩), (fun h => f13.out h), (fun h => f14.out h), (fun h => f15.out h), (fun h => f16.out h), (fun h => f17.out h), (fun h => f18.out h), (fun h => f19.out h), (fun h => f20.out h), (fun h => f21.out h), (fun h => f22.out h), (fun h => f23.out h)⟩
              · intro L vs W hlen hL hD hI K hK
                obtain ⟨x0, x1, x2, x3, x4, x5, x6, x7, x8, x9, x10, x11, x12, x13, x14, x15, x16, x17, x18, x19, x20, x21, x22, x23, rfl⟩ := len24 hlen
                have hG := hI.1
                replace hI := hI.2
                have f0 := hide hI.1
                replace hI := hI.2
                have f1 := hide hI.1
                replace hI := hI.2
                have f2 := hide hI.1
                replace hI := hI.2
                have f3 := hide hI.1
                replace hI := hI.2
                have f4 := hide hI.1
                replace hI := hI.2
                have f5 := hide hI.1
                replace hI := hI.2
                have f6 := hide hI.1
                replace hI := hI.2
                have f7 := hide hI.1
                replace hI := hI.2
                have f8 := hide hI.1
                replace hI := hI.2
                have f9 := hide hI.1
                replace hI := hI.2
                have f10 := hide hI.1
                replace hI := hI.2
                have f11 := hide hI.1
                replace hI := hI.2
                have f12 := hide hI.1
                replace hI := hI.2
                have f13 := hide hI.1
                replace hI := hI.2
                have f14 := hide hI.1
                replace hI := hI.2
                have f15 := hide hI.1
                replace hI := hI.2
                have f16 := hide hI.1
                replace hI := hI.2
                have f17 := hide hI.1
                replace hI := hI.2
                have f18 := hide hI.1
                replace hI := hI.2
                have f19 := hide hI.1
                replace hI := hI.2
                have f20 := hide hI.1
                replace hI := hI.2
                have f21 := hide hI.1
                replace hI := hI.2
                have f22 := hide hI.1
                replace hI := hI.2
                have f23 := hide hI
                clear hI
                have b0 := hG.cell 0 rfl
                have b1 := hG.cell 1 rfl
                have b2 := hG.cell 2 rfl
                have g12 := f12.out (hD.on 12 (by kernel_rfl))
                try simp only [puts, Act.put, List.setIfInBounds_toArray, List.set_cons_zero, List.set_cons_succ]
                obtain ⟨q1, q2, rfl⟩ := g12
                go_simp
                exact hK.out _ _ _ (by simp only [puts, Act.put, List.setIfInBounds_toArray, List.set_cons_zero, List.set_cons_succ] <;> rfl) ⟨hG, (fun h => f0.out h), (fun h => f1.out h), (fun h => f2.out h), (fun h => f3.out h), (fun h => f4.out h), (fun h => f5.out h), (fun h => f6.out h), (fun h => f7.out h), (fun h => f8.out h), (fun h => f9.out h), (fun h => f10.out h), (fun h => f11.out h), (fun h => f12.out h), (fun _ => ⟨q1, q2, rfl⟩), (fun h => f14.out h), (fun h => f15.out h), (fun h => f16.out h), (fun h => f17.out h), (fun h => f18.out h), (fun h => f19.out h), (fun h => f20.out h), (fun h => f21.out h), (fun h => f22.out h), (fun h => f23.out h)⟩
              · intro L vs W hlen hL hD hI K hK
                obtain ⟨x0, x1, x2, x3, x4, x5, x6, x7, x8, x9, x10, x11, x12, x13, x14, x15, x16, x17, x18, x19, x20, x21, x22, x23, rfl⟩ := len24 hlen
                have hG := hI.1
                replace hI := hI.2
                have f0 := hide hI.1
                replace hI := hI.2
                have f1 := hide hI.1
                replace hI := hI.2
                have f2 := hide hI.1
                replace hI := hI.2
                have f3 := hide hI.1
                replace hI := hI.2
                have f4 := hide hI.1
                replace hI := hI.2
                have f5 := hide hI.1
                replace hI := hI.2
                have f6 := hide hI.1
                replace hI := hI.2
                have f7 := hide hI.1
                replace hI := hI.2
                have f8 := hide hI.1
                replace hI := hI.2
                have f9 := hide hI.1
                replace hI := hI.2
                have f10 := hide hI.1
                replace hI := hI.2
                have f11 := hide hI.1
                replace hI := hI.2
                have f12 := hide hI.1
                replace hI := hI.2
                have f13 := hide hI.1
                replace hI := hI.2
                have f14 := hide hI.1
                replace hI := hI.2
                have f15 := hide hI.1
                replace hI := hI.2
                have f16 := hide hI.1
                replace hI := hI.2
                have f17 := hide hI.1
                replace hI := hI.2
                have f18 := hide hI.1
                replace hI := hI.2
                have f19 := hide hI.1
                replace hI := hI.2
                have f20 := hide hI.1
                replace hI := hI.2
                have f21 := hide hI.1
                replace hI := hI.2
                have f22 := hide hI.1
                replace hI := hI.2
                have f23 := hide hI
                clear hI
                have b0 := hG.cell 0 rfl
                have b1 := hG.cell 1 rfl
                have b2 := hG.cell 2 rfl
                have g13 := f13.out (hD.on 13 (by kernel_rfl))
                try simp only [puts, Act.put, List.setIfInBounds_toArray, List.set_cons_zero, List.set_cons_succ]
                obtain ⟨q1, q2, rfl⟩ := g13
                go_simp
                exact hK.out _ _ _ (by simp only [puts, Act.put, List.setIfInBounds_toArray, List.set_cons_zero, List.set_cons_succ] <;> rfl) ⟨hG, (fun h => f0.out h), (fun h => f1.out h), (fun h => f2.out h), (fun h => f3.out h), (fun h => f4.out h), (fun h => f5.out h), (fun h => f6.out h), (fun h => f7.out h), (fun h => f8.out h), (fun h => f9.out h), (fun h => f10.out h), (fun h => f11.out h), (fun h => f12.out h), (fun h => f13.out h), (fun _ => ⟨q1, q2, rfl⟩), (fun h => f15.out h), (fun h => f16.out h), (fun h => f17.out h), (fun h => f18.out h), (fun h => f19.out h), (fun h => f20.out h), (fun h => f21.out h), (fun h => f22.out h), (fun h => f23.out h)⟩
              · intro L vs W hlen hL hD hI K hK
                obtain ⟨x0, x1, x2, x3, x4, x5, x6, x7, x8, x9, x10, x11, x12, x13, x14, x15, x16, x17, x18, x19, x20, x21, x22, x23, rfl⟩ := len24 hlen
                have hG := hI.1
                replace hI := hI.2
                have f0 := hide hI.1
                replace hI := hI.2
                have f1 := hide hI.1
                replace hI := hI.2
                have f2 := hide hI.1
                replace hI := hI.2
                have f3 := hide hI.1
                replace hI := hI.2
                have f4 := hide hI.1
                replace hI := hI.2
                have f5 := hide hI.1
                replace hI := hI.2
                have f6 := hide hI.1
                replace hI := hI.2
                have f7 := hide hI.1
                replace hI := hI.2
                have f8 := hide hI.1
                replace hI := hI.2
                have f9 := hide hI.1
                replace hI := hI.2
                have f10 := hide hI.1
                replace hI := hI.2
                have f11 := hide hI.1
                replace hI := hI.2
                have f12 := hide hI.1
                replace hI := hI.2
                have f13 := hide hI.1
                replace hI := hI.2
                have f14 := hide hI.1
                replace hI := hI.2
                have f15 := hide hI.1
                replace hI := hI.2
                have f16 := hide hI.1
                replace hI := hI.2
                have f17 := hide hI.1
                replace hI := hI.2
                have f18 := hide hI.1
                replace hI := hI.2
                have f19 := hide hI.1
                replace hI := hI.2
                have f20 := hide hI.1
                replace hI := hI.2
                have f21 := hide hI.1
                replace hI := hI.2
                have f22 := hide hI.1
                replace hI := hI.2
                have f23 := hide hI
                clear hI
                have b0 := hG.cell 0 rfl
                have b1 := hG.cell 1 rfl
                have b2 := hG.cell 2 rfl
                have g13 := f13.out (hD.on 13 (by kernel_rfl))
                have g14 := f14.out (hD.on 14 (by kernel_rfl))
                try simp only [puts, Act.put, List.setIfInBounds_toArray, List.set_cons_zero, List.set_cons_succ]
                obtain ⟨q1, q2, rfl⟩ := g13
                obtain ⟨-, -, rfl⟩ := g14
                go_simp
                exact hK.out _ _ _ (by simp only [puts, Act.put, List.setIfInBounds_toArray, List.set_cons_zero, List.set_cons_succ] <;> rfl) ⟨hG, (fun h => f0.out h), (fun h => f1.out h), (fun h => f2.out h), (fun h => f3.out h), (fun h => f4.out h), (fun h => f5.out h), (fun h => f6.out h), (fun h => f7.out h), (fun h => f8.out h), (fun h => f9.out h), (fun h => f10.out h), (fun h => f11.out h), (fun h => f12.out h), (fun h => f13.out h), (fun h => f14.out h), (fun _ => ⟨q1, q2, rfl⟩), (fun h => f16.out h), (fun h => f17.out h), (fun h => f18.out h), (fun h => f19.out h), (fun h => f20.out h), (fun h => f21.out h), (fun h => f22.out h), (fun h => f23.out h)⟩
              · intro L vs W hlen hL hD hI K hK
                obtain ⟨x0, x1, x2, x3, x4, x5, x6, x7, x8, x9, x10, x11, x12, x13, x14, x15, x16, x17, x18, x19, x20, x21, x22, x23, rfl⟩ := len24 hlen
                have hG := hI.1
                replace hI := hI.2
                have f0 := hide hI.1
                replace hI := hI.2
                have f1 := hide hI.1
                replace hI := hI.2
                have f2 := hide hI.1
                replace hI := hI.2
                have f3 := hide hI.1
                replace hI := hI.2
                have f4 := hide hI.1
                replace hI := hI.2
                have f5 := hide hI.1
                replace hI := hI.2
                have f6 := hide hI.1
                replace hI := hI.2
                have f7 := hide hI.1
                replace hI := hI.2
                have f8 := hide hI.1
                replace hI := hI.2
                have f9 := hide hI.1
                replace hI := hI.2
                have f10 := hide hI.1
                replace hI := hI.2
                have f11 := hide hI.1
                replace hI := hI.2
                have f12 := hide hI.1
                replace hI := hI.2
                have f13 := hide hI.1
                replace hI := hI.2
                have f14 := hide hI.1
                replace hI := hI.2
                have f15 := hide hI.1
                replace hI := hI.2
                have f16 := hide hI.1
                replace hI := hI.2
                have f17 := hide hI.1
                replace hI := hI.2
                have f18 := hide hI.1
                replace hI := hI.2
                have f19 := hide hI.1
                replace hI := hI.2
                have f20 := hide hI.1
                replace hI := hI.2
                have f21 := hide hI.1
                replace hI := hI.2
                have f22 := hide hI.1
                replace hI := hI.2
                have f23 := hide hI
                clear hI
                have b0 := hG.cell 0 rfl
                have b1 := hG.cell 1 rfl
                have b2 := hG.cell 2 rfl
                have g13 := f13.out (hD.on 13 (by kernel_rfl))
                have g15 := f15.out (hD.on 15 (by kernel_rfl))
                try simp only [puts, Act.put, List.setIfInBounds_toArray, List.set_cons_zero, List.set_cons_succ]
                obtain ⟨q1, q2, rfl⟩ := g13
                obtain ⟨-, -, rfl⟩ := g15
                go_simp
                exact hK.out _ _ _ (by simp only [puts, Act.put, List.setIfInBounds_toArray, List.set_cons_zero, List.set_cons_succ] <;> rfl) ⟨hG, (fun h => f0.out h), (fun h => f1.out h), (fun h => f2.out h), (fun h => f3.out h), (fun h => f4.out h), (fun h => f5.out h), (fun h => f6.out h), (fun h => f7.out h), (fun h => f8.out h), (fun h => f9.out h), (fun h => f10.out h), (fun h => f11.out h), (fun h => f12.out h), (fun h => f13.out h), (fun h => f14.out h), (fun h => f15.out h), (fun _ => ⟨q1, q2, rfl⟩), (fun h => f17.out h), (fun h => f18.out h), (fun h => f19.out h), (fun h => f20.out h), (fun h => f21.out h), (fun h => f22.out h), (fun h => f23.out h)⟩
              · intro L vs W hlen hL hD hI K hK
                obtain ⟨x0, x1, x2, x3, x4, x5, x6, x7, x8, x9, x10, x11, x12, x13, x14, x15, x16, x17, x18, x19, x20, x21, x22, x23, rfl⟩ := len24 hlen
                have hG := hI.1
                replace hI := hI.2
                have f0 := hide hI.1
                replace hI := hI.2
                have f1 := hide hI.1
                replace hI := hI.2
                have f2 := hide hI.1
                replace hI := hI.2
                have f3 := hide hI.1
                replace hI := hI.2
                have f4 := hide hI.1
                replace hI := hI.2
                have f5 := hide hI.1
                replace hI := hI.2
                have f6 := hide hI.1
                replace hI := hI.2
                have f7 := hide hI.1
                replace hI := hI.2
                have f8 := hide hI.1
                replace hI := hI.2
                have f9 := hide hI.1
                replace hI := hI.2
                have f10 := hide hI.1
                replace hI := hI.2
                have f11 := hide hI.1
                replace hI := hI.2
                have f12 := hide hI.1
                replace hI := hI.2
                have f13 := hide hI.1
                replace hI := hI.2
                have f14 := hide hI.1
                replace hI := hI.2
                have f15 := hide hI.1
                replace hI := hI.2
                have f16 := hide hI.1
                replace hI := hI.2
                have f17 := hide hI.1
                replace hI := hI.2
                have f18 := hide hI.1
                replace hI := hI.2
                have f19 := hide hI.1
                replace hI := hI.2
                have f20 := hide hI.1
                replace hI := hI.2
                have f21 := hide hI.1
                replace hI := hI.2
                have f22 := hide hI.1
                replace hI := hI.2
                have f23 := hide hI
                clear hI
                have b0 := hG.cell 0 rfl
                have b1 := hG.cell 1 rfl
                have b2 := hG.cell 2 rfl
                have g16 := f16.out (hD.on 16 (by kernel_rfl))
                try simp only [puts, Act.put, List.setIfInBounds_toArray, List.set_cons_zero, List.set_cons_succ]
                obtain ⟨q1, q2, rfl⟩ := g16
                go_simp
                exact hK.out _ _ _ (by simp only [puts, Act.put, List.setIfInBounds_toArray, List.set_cons_zero, List.set_cons_succ] <;> rfl) ⟨hG, (fun h => f0.out h), (fun h => f1.out h), (fun h => f2.out h), (fun h => f3.out h), (fun h => f4.out h), (fun h => f5.out h), (fun h => f6.out h), (fun h => f7.out h), (fun h => f8.out h), (fun h => f9.out h), (fun h => f10.out h), (fun h => f11.out h), (fun h => f12.out h), (fun h => f13.out h), (fun h => f14.out h), (fun h => f15.out h), (fun h => f16.out h), (fun _ => rfl), (fun h => f18.out h), (fun h => f19.out h), (fun h => f20.out h), (fun h => f21.out h), (fun h => f22.out h), (fun h => f23.out h)⟩
              · intro L vs W hlen hL hD hI K hK
                obtain ⟨x0, x1, x2, x3, x4, x5, x6, x7, x8, x9, x10, x11, x12, x13, x14, x15, x16, x17, x18, x19, x20, x21, x22, x23, rfl⟩ := len24 hlen
                have hG := hI.1
                replace hI := hI.2
                have f0 := hide hI.1
                replace hI := hI.2
                have f1 := hide hI.1
                replace hI := hI.2
                have f2 := hide hI.1
                replace hI := hI.2
                have f3 := hide hI.1
                replace hI := hI.2
                have f4 := hide hI.1
                replace hI := hI.2
                have f5 := hide hI.1
                replace hI := hI.2
                have f6 := hide hI.1
                replace hI := hI.2
                have f7 := hide hI.1
                replace hI := hI.2
                have f8 := hide hI.1
                replace hI := hI.2
                have f9 := hide hI.1
                replace hI := hI.2
                have f10 := hide hI.1
                replace hI := hI.2
                have f11 := hide hI.1
                replace hI := hI.2
                have f12 := hide hI.1
                replace hI := hI.2
                have f13 := hide hI.1
                replace hI := hI.2
                have f14 := hide hI.1
                replace hI := hI.2
                have f15 := hide hI.1
                replace hI := hI.2
                have f16 := hide hI.1
                replace hI := hI.2
                have f17 := hide hI.1
                replace hI := hI.2
                have f18 := hide hI.1
                replace hI := hI.2
                have f19 := hide hI.1
                replace hI := hI.2
                have f20 := hide hI.1
                replace hI := hI.2
                have f21 := hide hI.1
                replace hI := hI.2
                have f22 := hide hI.1
                replace hI := hI.2
                have f23 := hide hI
                clear hI
                have b0 := hG.cell 0 rfl
                have b1 := hG.cell 1 rfl
                have b2 := hG.cell 2 rfl
                have g16 := f16.out (hD.on 16 (by kernel_rfl))
                obtain rfl := f17.out (hD.on 17 (by kernel_rfl))
                try simp only [puts, Act.put, List.setIfInBounds_toArray, List.set_cons_zero, List.set_cons_succ]
                obtain ⟨q1, q2, rfl⟩ := g16
                rw [q2, hL] at hG
                go_simp
                refine hG.syncC.mono ?_
                rintro e W' ⟨rfl, hG2⟩
                try go_simp
                exact hK.out _ _ _ (by simp only [puts, Act.put, List.setIfInBounds_toArray, List.set_cons_zero, List.set_cons_succ] <;> rfl) ⟨(by show TwG _ _ _ _ _ _ _ _ _ _ _ _ (L 5) true (L 11) (L 20) _; rw [q2]; exact hG2), (fun h => f0.out h), (fun h => f1.out h), (fun h => f2.out h), (fun h => f3.out h), (fun h => f4.out h), (fun h => f5.out h), (fun h => f6.out h), (fun h => f7.out h), (fun h => f8.out h), (fun h => f9.out h), (fun h => f10.out h), (fun h => (fun h => h) (f11.out h)), (fun h => (fun h => h) (f12.out h)), (fun h => (fun h => h) (f13.out h)), (fun h => (fun h => h) (f14.out h)), (fun h => (fun h => h) (f15.out h)), (fun h => (fun h => h) (f16.out h)), (fun h => f17.out h), (fun _ => ⟨q1, q2, rfl⟩), (fun h => f19.out h), (fun h => (fun h => absurd (h.1.symm.trans hL) (by decide)) (f20.out h)), (fun h => f21.out h), (fun h => f22.out h), (fun h => f23.out h)⟩
              · intro L vs W hlen hL hD hI K hK
                obtain ⟨x0, x1, x2, x3, x4, x5, x6, x7, x8, x9, x10, x11, x12, x13, x14, x15, x16, x17, x18, x19, x20, x21, x22, x23, rfl⟩ := len24 hlen
                have hG := hI.1
                replace hI := hI.2
                have f0 := hide hI.1
                replace hI := hI.2
                have f1 := hide hI.1
                replace hI := hI.2
                have f2 := hide hI.1
                replace hI := hI.2
                have f3 := hide hI.1
                replace hI := hI.2
                have f4 := hide hI.1
                replace hI := hI.2
                have f5 := hide hI.1
                replace hI := hI.2
                have f6 := hide hI.1
                replace hI := hI.2
                have f7 := hide hI.1
                replace hI := hI.2
                have f8 := hide hI.1
                replace hI := hI.2
                have f9 := hide hI.1
                replace hI := hI.2
                have f10 := hide hI.1
                replace hI := hI.2
                have f11 := hide hI.1
                replace hI := hI.2
                have f12 := hide hI.1
                replace hI := hI.2
                have f13 := hide hI.1
                replace hI := hI.2
                have f14 := hide hI.1
                replace hI := hI.2
                have f15 := hide hI.1
                replace hI := hI.2
                have f16 := hide hI.1
                replace hI := hI.2
                have f17 := hide hI.1
                replace hI := hI.2
                have f18 := hide hI.1
                replace hI := hI.2
                have f19 := hide hI.1
                replace hI := hI.2
                have f20 := hide hI.1
                replace hI := hI.2
                have f21 := hide hI.1
                replace hI := hI.2
                have f22 := hide hI.1
                replace hI := hI.2
                have f23 := hide hI
                clear hI
                have b0 := hG.cell 0 rfl
                have b1 := hG.cell 1 rfl
                have b2 := hG.cell 2 rfl
                have g16 := f16.out (hD.on 16 (by kernel_rfl))
                try simp only [puts, Act.put, List.setIfInBounds_toArray, List.set_cons_zero, List.set_cons_succ]
                obtain ⟨q1, q2, rfl⟩ := g16
                go_simp
                exact hK.out _ _ _ (by simp only [puts, Act.put, List.setIfInBounds_toArray, List.set_cons_zero, List.set_cons_succ] <;> rfl) ⟨hG, (fun h => f0.out h), (fun h => f1.out h), (fun h => f2.out h), (fun h => f3.out h), (fun h => f4.out h), (fun h => f5.out h), (fun h => f6.out h), (fun h => f7.out h), (fun h => f8.out h), (fun h => f9.out h), (fun h => f10.out h), (fun h => f11.out h), (fun h => f12.out h), (fun h => f13.out h), (fun h => f14.out h), (fun h => f15.out h), (fun h => f16.out h), (fun h => f17.out h), (fun h => f18.out h), (fun _ => rfl), (fun h => f20.out h), (fun h => f21.out h), (fun h => f22.out h), (fun h => f23.out h)⟩
              · intro L vs W hlen hL hD hI K hK
                obtain ⟨x0, x1, x2, x3, x4, x5, x6, x7, x8, x9, x10, x11, x12, x13, x14, x15, x16, x17, x18, x19, x20, x21, x22, x23, rfl⟩ := len24 hlen
                have hG := hI.1
                replace hI := hI.2
                have f0 := hide hI.1
                replace hI := hI.2
                have f1 := hide hI.1
                replace hI := hI.2
                have f2 := hide hI.1
                replace hI := hI.2
                have f3 := hide hI.1
                replace hI := hI.2
                have f4 := hide hI.1
                replace hI := hI.2
                have f5 := hide hI.1
                replace hI := hI.2
                have f6 := hide hI.1
                replace hI := hI.2
                have f7 := hide hI.1
                replace hI := hI.2
                have f8 := hide hI.1
                replace hI := hI.2
                have f9 := hide hI.1
                replace hI := hI.2
                have f10 := hide hI.1
                replace hI := hI.2
                have f11 := hide hI.1
                replace hI := hI.2
                have f12 := hide hI.1
                replace hI := hI.2
                have f13 := hide hI.1
                replace hI := hI.2
                have f14 := hide hI.1
                replace hI := hI.2
                have f15 := hide hI.1
                replace hI := hI.2
                have f16 := hide hI.1
                replace hI := hI.2
                have f17 := hide hI.1
                replace hI := hI.2
                have f18 := hide hI.1
                replace hI := hI.2
                have f19 := hide hI.1
                replace hI := hI.2
                have f20 := hide hI.1
                replace hI := hI.2
                have f21 := hide hI.1
                replace hI := hI.2
                have f22 := hide hI.1
                replace hI := hI.2
                have f23 := hide hI
                clear hI
                have b0 := hG.cell 0 rfl
                have b1 := hG.cell 1 rfl
                have b2 := hG.cell 2 rfl
                have g16 := f16.out (hD.on 16 (by kernel_rfl))
                have g18 := f18.out (hD.on 18 (by kernel_rfl))
                obtain rfl := f19.out (hD.on 19 (by kernel_rfl))
                try simp only [puts, Act.put, List.setIfInBounds_toArray, List.set_cons_zero, List.set_cons_succ]
                obtain ⟨q1, q2, rfl⟩ := g16
                obtain ⟨-, -, rfl⟩ := g18
                rw [q1, hL] at hG
                go_simp
                refine hG.syncA.mono ?_
                rintro e W' ⟨rfl, hG2⟩
                try go_simp
                exact hK.out _ _ _ (by simp only [puts, Act.put, List.setIfInBounds_toArray, List.set_cons_zero, List.set_cons_succ] <;> rfl) ⟨(by show TwG _ _ _ _ _ _ _ _ _ _ _ _ (L 5) (L 18) (L 11) true _; rw [q1]; exact hG2), (fun h => f0.out h), (fun h => f1.out h), (fun h => f2.out h), (fun h => f3.out h), (fun h => f4.out h), (fun h => f5.out h), (fun h => f6.out h), (fun h => f7.out h), (fun h => f8.out h), (fun h => f9.out h), (fun h => f10.out h), (fun h => (fun h => h) (f11.out h)), (fun h => (fun h => h) (f12.out h)), (fun h => (fun h => h) (f13.out h)), (fun h => (fun h => h) (f14.out h)), (fun h => (fun h => h) (f15.out h)), (fun h => (fun h => h) (f16.out h)), (fun h => f17.out h), (fun h => (fun h => h) (f18.out h)), (fun h => f19.out h), (fun _ => ⟨hD.on 18 (by kernel_rfl), q1, q2, rfl⟩), (fun h => f21.out h), (fun h => f22.out h), (fun h => f23.out h)⟩
              · intro L vs W hlen hL hD hI K hK
                obtain ⟨x0, x1, x2, x3, x4, x5, x6, x7, x8, x9, x10, x11, x12, x13, x14, x15, x16, x17, x18, x19, x20, x21, x22, x23, rfl⟩ := len24 hlen
                have hG := hI.1
                replace hI := hI.2
                have f0 := hide hI.1
                replace hI := hI.2
                have f1 := hide hI.1
                replace hI := hI.2
                have f2 := hide hI.1
                replace hI := hI.2
                have f3 := hide hI.1
                replace hI := hI.2
                have f4 := hide hI.1
                replace hI := hI.2
                have f5 := hide hI.1
                replace hI := hI.2
                have f6 := hide hI.1
                replace hI := hI.2
                have f7 := hide hI.1
                replace hI := hI.2
                have f8 := hide hI.1
                replace hI := hI.2
                have f9 := hide hI.1
                replace hI := hI.2
                have f10 := hide hI.1
                replace hI := hI.2
                have f11 := hide hI.1
                replace hI := hI.2
                have f12 := hide hI.1
                replace hI := hI.2
                have f13 := hide hI.1
                replace hI := hI.2
                have f14 := hide hI.1
                replace hI := hI.2
                have f15 := hide hI.1
                replace hI := hI.2
                have f16 := hide hI.1
                replace hI := hI.2
                have f17 := hide hI.1
                replace hI := hI.2
                have f18 := hide hI.1
                replace hI := hI.2
                have f19 := hide hI.1
                replace hI := hI.2
                have f20 := hide hI.1
                replace hI := hI.2
                have f21 := hide hI.1
                replace hI := hI.2
                have f22 := hide hI.1
                replace hI := hI.2
                have f23 := hide hI
                clear hI
                have b0 := hG.cell 0 rfl
                have b1 := hG.cell 1 rfl
                have b2 := hG.cell 2 rfl
                have g16 := f16.out (hD.on 16 (by kernel_rfl))
                have g18 := f18.out (hD.on 18 (by kernel_rfl))
                have g20 := f20.out (hD.on 20 (by kernel_rfl))
                try simp only [puts, Act.put, List.setIfInBounds_toArray, List.set_cons_zero, List.set_cons_succ]
                obtain ⟨-, -, rfl⟩ := g16
                obtain ⟨-, -, rfl⟩ := g18
                obtain ⟨-, -, -, rfl⟩ := g20
                go_simp
                exact hK.out _ _ _ (by simp only [puts, Act.put, List.setIfInBounds_toArray, List.set_cons_zero, List.set_cons_succ] <;> rfl) ⟨hG, (fun h => f0.out h), (fun h => f1.out h), (fun h => f2.out h), (fun h => f3.out h), (fun h => f4.out h), (fun h => f5.out h), (fun h => f6.out h), (fun h => f7.out h), (fun h => f8.out h), (fun h => f9.out h), (fun h => f10.out h), (fun h => f11.out h), (fun h => f12.out h), (fun h => f13.out h), (fun h => f14.out h), (fun h => f15.out h), (fun h => f16.out h), (fun h => f17.out h), (fun h => f18.out h), (fun h => f19.out h), (fun h => f20.out h), (fun _ => rfl), (fun h => f22.out h), (fun h => f23.out h)⟩
              · intro L vs W hlen hL hD hI K hK
                obtain ⟨x0, x1, x2, x3, x4, x5, x6, x7, x8, x9, x10, x11, x12, x13, x14, x15, x16, x17, x18, x19, x20, x21, x22, x23, rfl⟩ := len24 hlen
                have hG := hI.1
                replace hI := hI.2
                have f0 := hide hI.1
                replace hI := hI.2
                have f1 := hide hI.1
                replace hI := hI.2
                have f2 := hide hI.1
                replace hI := hI.2
                have f3 := hide hI.1
                replace hI := hI.2
                have f4 := hide hI.1
                replace hI := hI.2
                have f5 := hide hI.1
                replace hI := hI.2
                have f6 := hide hI.1
                replace hI := hI.2
                have f7 := hide hI.1
                replace hI := hI.2
                have f8 := hide hI.1
                replace hI := hI.2
                have f9 := hide hI.1
                replace hI := hI.2
                have f10 := hide hI.1
                replace hI := hI.2
                have f11 := hide hI.1
                replace hI := hI.2
                have f12 := hide hI.1
                replace hI := hI.2
                have f13 := hide hI.1
                replace hI := hI.2
                have f14 := hide hI.1
                replace hI := hI.2
                have f15 := hide hI.1
                replace hI := hI.2
                have f16 := hide hI.1
                replace hI := hI.2
                have f17 := hide hI.1
                replace hI := hI.2
                have f18 := hide hI.1
                replace hI := hI.2
                have f19 := hide hI.1
                replace hI := hI.2
                have f20 := hide hI.1
                replace hI := hI.2
                have f21 := hide hI.1
                replace hI := hI.2
                have f22 := hide hI.1
                replace hI := hI.2
                have f23 := hide hI
                clear hI
                have b0 := hG.cell 0 rfl
                have b1 := hG.cell 1 rfl
                have b2 := hG.cell 2 rfl
                have g13 := f13.out (hD.on 13 (by kernel_rfl))
                have g16 := f16.out (hD.on 16 (by kernel_rfl))
                obtain rfl := f21.out (hD.on 21 (by kernel_rfl))
                try simp only [puts, Act.put, List.setIfInBounds_toArray, List.set_cons_zero, List.set_cons_succ]
                obtain ⟨-, -, rfl⟩ := g13
                obtain ⟨-, -, rfl⟩ := g16
                go_simp
                exact hK.out _ _ _ (by simp only [puts, Act.put, List.setIfInBounds_toArray, List.set_cons_zero, List.set_cons_succ] <;> rfl) ⟨hG, (fun h => f0.out h), (fun h => f1.out h), (fun h => f2.out h), (fun h => f3.out h), (fun h => f4.out h), (fun h => f5.out h), (fun h => f6.out h), (fun h => f7.out h), (fun h => f8.out h), (fun h => f9.out h), (fun h => f10.out h), (fun h => f11.out h), (fun h => f12.out h), (fun h => f13.out h), (fun h => f14.out h), (fun h => f15.out h), (fun h => f16.out h), (fun h => f17.out h), (fun h => f18.out h), (fun h => f19.out h), (fun h => f20.out h), (fun h => f21.out h), (fun _ => rfl), (fun h => f23.out h)⟩
              · intro L vs W hlen hL hD hI K hK
                obtain ⟨x0, x1, x2, x3, x4, x5, x6, x7, x8, x9, x10, x11, x12, x13, x14, x15, x16, x17, x18, x19, x20, x21, x22, x23, rfl⟩ := len24 hlen
                have hG := hI.1
                replace hI := hI.2
                have f0 := hide hI.1
                replace hI := hI.2
                have f1 := hide hI.1
                replace hI := hI.2
                have f2 := hide hI.1
                replace hI := hI.2
                have f3 := hide hI.1
                replace hI := hI.2
                have f4 := hide hI.1
                replace hI := hI.2
                have f5 := hide hI.1
                replace hI := hI.2
                have f6 := hide hI.1
                replace hI := hI.2
                have f7 := hide hI.1
                replace hI := hI.2
                have f8 := hide hI.1
                replace hI := hI.2
                have f9 := hide hI.1
                replace hI := hI.2
                have f10 := hide hI.1
                replace hI := hI.2
                have f11 := hide hI.1
                replace hI := hI.2
                have f12 := hide hI.1
                replace hI := hI.2
                have f13 := hide hI.1
                replace hI := hI.2
                have f14 := hide hI.1
                replace hI := hI.2
                have f15 := hide hI.1
                replace hI := hI.2
                have f16 := hide hI.1
                replace hI := hI.2
                have f17 := hide hI.1
                replace hI := hI.2
                have f18 := hide hI.1
                replace hI := hI.2
                have f19 := hide hI.1
                replace hI := hI.2
                have f20 := hide hI.1
                replace hI := hI.2
                have f21 := hide hI.1
                replace hI := hI.2
                have f22 := hide hI.1
                replace hI := hI.2
                have f23 := hide hI
                clear hI
                have b0 := hG.cell 0 rfl
                have b1 := hG.cell 1 rfl
                have b2 := hG.cell 2 rfl
                have g13 := f13.out (hD.on 13 (by kernel_rfl))
                obtain rfl := f22.out (hD.on 22 (by kernel_rfl))
                try simp only [puts, Act.put, List.setIfInBounds_toArray, List.set_cons_zero, List.set_cons_succ]
                obtain ⟨-, -, rfl⟩ := g13
                go_simp
                exact hK.out _ _ _ (by simp only [puts, Act.put, List.setIfInBounds_toArray, List.set_cons_zero, List.set_cons_succ] <;> rfl) ⟨hG, (fun h => f0.out h), (fun h => f1.out h), (fun h => f2.out h), (fun h => f3.out h), (fun h => f4.out h), (fun h => f5.out h), (fun h => f6.out h), (fun h => f7.out h), (fun h => f8.out h), (fun h => f9.out h), (fun h => f10.out h), (fun h => f11.out h), (fun h => f12.out h), (fun h => f13.out h), (fun h => f14.out h), (fun h => f15.out h), (fun h => f16.out h), (fun h => f17.out h), (fun h => f18.out h), (fun h => f19.out h), (fun h => f20.out h), (fun h => f21.out h), (fun h => f22.out h), (fun _ => rfl)⟩
            intro L vs W hlen hall hI
            obtain ⟨x0, x1, x2, x3, x4, x5, x6, x7, x8, x9, x10, x11, x12, x13, x14, x15, x16, x17, x18, x19, x20, x21, x22, x23, rfl⟩ := len24 hlen
            have hG := hI.1
            replace hI := hI.2
            have f0 := hide hI.1
            replace hI := hI.2
            have f1 := hide hI.1
            replace hI := hI.2
            have f2 := hide hI.1
            replace hI := hI.2
            have f3 := hide hI.1
            replace hI := hI.2
            have f4 := hide hI.1
            replace hI := hI.2
            have f5 := hide hI.1
            replace hI := hI.2
            have f6 := hide hI.1
            replace hI := hI.2
            have f7 := hide hI.1
            replace hI := hI.2
            have f8 := hide hI.1
            replace hI := hI.2
            have f9 := hide hI.1
            replace hI := hI.2
            have f10 := hide hI.1
            replace hI := hI.2
            have f11 := hide hI.1
            replace hI := hI.2
            have f12 := hide hI.1
            replace hI := hI.2
            have f13 := hide hI.1
            replace hI := hI.2
            have f14 := hide hI.1
            replace hI := hI.2
            have f15 := hide hI.1
            replace hI := hI.2
            have f16 := hide hI.1
            replace hI := hI.2
            have f17 := hide hI.1
            replace hI := hI.2
            have f18 := hide hI.1
            replace hI := hI.2
            have f19 := hide hI.1
            replace hI := hI.2
            have f20 := hide hI.1
            replace hI := hI.2
            have f21 := hide hI.1
            replace hI := hI.2
            have f22 := hide hI.1
            replace hI := hI.2
            have f23 := hide hI
            clear hI
            obtain rfl := f0.out (hall 0 (by decide))
            obtain rfl := f1.out (hall 1 (by decide))
            obtain rfl := f2.out (hall 2 (by decide))
            obtain rfl := f3.out (hall 3 (by decide))
            obtain rfl := f4.out (hall 4 (by decide))
            obtain rfl := f5.out (hall 5 (by decide))
            obtain rfl := f6.out (hall 6 (by decide))
            obtain rfl := f7.out (hall 7 (by decide))
            obtain rfl := f8.out (hall 8 (by decide))
            obtain rfl := f9.out (hall 9 (by decide))
            obtain rfl := f10.out (hall 10 (by decide))
            have g11 := f11.out (hall 11 (by decide))
            have g12 := f12.out (hall 12 (by decide))
            have g13 := f13.out (hall 13 (by decide))
            have g14 := f14.out (hall 14 (by decide))
            have g15 := f15.out (hall 15 (by decide))
            have g16 := f16.out (hall 16 (by decide))
            obtain rfl := f17.out (hall 17 (by decide))
            have g18 := f18.out (hall 18 (by decide))
            obtain rfl := f19.out (hall 19 (by decide))
            have g20 := f20.out (hall 20 (by decide))
            obtain rfl := f21.out (hall 21 (by decide))
            obtain rfl := f22.out (hall 22 (by decide))
            obtain rfl := f23.out (hall 23 (by decide))
            have hal := hide hall
            clear hall f0 f1 f2 f3 f4 f5 f6 f7 f8 f9 f10 f11 f12 f13 f14 f15 f16 f17 f18 f19 f20 f21 f22 f23
            try simp only [puts, Act.put, List.setIfInBounds_toArray, List.set_cons_zero, List.set_cons_succ]
            obtain ⟨W5, rfl⟩ : ∃ W' : World, W' = W := ⟨_, rfl⟩
            rw [hal.out 5 (by decide), hal.out 11 (by decide), hal.out 18 (by decide), hal.out 20 (by decide)] at hG
            obtain ⟨pc5, pa5, hT5, -, hbr5⟩ := hG
            obtain ⟨-, rfl⟩ := g11
            obtain ⟨-, -, rfl⟩ := g12
            obtain ⟨-, -, rfl⟩ := g13
            obtain ⟨-, -, rfl⟩ := g14
            obtain ⟨-, -, rfl⟩ := g15
            obtain ⟨-, -, rfl⟩ := g16
            obtain ⟨-, -, rfl⟩ := g18
            obtain ⟨-, -, -, rfl⟩ := g20
            go_wp2_with fail
            go_roundw
            case rel => exact ⟨k + 1, _, _, _, _, _, by omega, by omega, by go_num, hT5, hide ⟨by simp [st3, syncD], by have := HPD.out; omega⟩, hbr5⟩
            case measure => simp [intOf]; omega
      · obtain rfl : k = 30 := by omega
        have hpd := HPD.out.1
        obtain ⟨ca, cc, rfl⟩ : ∃ a q, pc = .slice a d.pend.length q := by
          rcases hT.A.hA.hP.form with ⟨rfl, e⟩ | ⟨g, q, cur, e, -⟩
          · have : d.pend = [] := by simpa using e
            rw [this]; exact ⟨none, 0, rfl⟩
          · exact ⟨some ⟨g, 0, none⟩, q, by simpa using e⟩
        obtain ⟨aa, ac, rfl⟩ : ∃ a q, pa = .slice a d.pend.length q := by
          rcases hT.A2.hA.hP.form with ⟨rfl, e⟩ | ⟨g, q, cur, e, -⟩
          · have : d.pend = [] := by simpa using e
            rw [this]; exact ⟨none, 0, rfl⟩
          · exact ⟨some ⟨g, 0, none⟩, q, by simpa using e⟩
        have hrc := read_all hT.A (by omega)
        have hra := read_all hT.A2 (by omega)
        have hpc : Calls Try.prog 17 #[.pointer (some ⟨kc.D, 0, none⟩)] wr (NumQ d.pend.length wr) := pending_any kc.D wr ca d.pend.length cc (hT.A.hA.hD.cell 4 rfl)
        have hpa : Calls Try.prog 17 #[.pointer (some ⟨ka.D, 0, none⟩)] wr (NumQ d.pend.length wr) := pending_any ka.D wr aa d.pend.length ac (hT.A2.hA.hD.cell 4 rfl)
        have hpl3 : (d.pend.length : Int) ≤ 9223372036854775807 := by omega
        generalize d.pend.length = q at *
        have HRC := hide hrc
        have HRA := hide hra
        have HPC := hide hpc
        have HPA := hide hpa
        clear hrc hra hpc hpa hT
        go_wp2_with fail
        refine HRC.out.mono ?_
        rintro e w8 ⟨rfl, hw8⟩
        obtain rfl := hw8
        go_wp2_with fail
        refine HRA.out.mono ?_
        rintro e w8 ⟨rfl, hw8⟩
        obtain rfl := hw8
        go_wp2_with fail
        refine HPC.out.mono ?_
        rintro e w8 ⟨rfl, hw8⟩
        obtain rfl := hw8
        go_wp2_with fail
        refine HPA.out.mono ?_
        rintro e w8 ⟨rfl, hw8⟩
        obtain rfl := hw8
        go_wp2_with fail
        go_ret
        exact ⟨rfl, hbr⟩
    · obtain rfl : k = l.length := by omega
      have hpd := HPD.out.1
      obtain ⟨ca, cc, rfl⟩ : ∃ a q, pc = .slice a d.pend.length q := by
        rcases hT.A.hA.hP.form with ⟨rfl, e⟩ | ⟨g, q, cur, e, -⟩
        · have : d.pend = [] := by simpa using e
          rw [this]; exact ⟨none, 0, rfl⟩
        · exact ⟨some ⟨g, 0, none⟩, q, by simpa using e⟩
      obtain ⟨aa, ac, rfl⟩ : ∃ a q, pa = .slice a d.pend.length q := by
        rcases hT.A2.hA.hP.form with ⟨rfl, e⟩ | ⟨g, q, cur, e, -⟩
        · have : d.pend = [] := by simpa using e
          rw [this]; exact ⟨none, 0, rfl⟩
        · exact ⟨some ⟨g, 0, none⟩, q, by simpa using e⟩
      have hrc := read_all hT.A (by omega)
      have hra := read_all hT.A2 (by omega)
      have hpc : Calls Try.prog 17 #[.pointer (some ⟨kc.D, 0, none⟩)] wr (NumQ d.pend.length wr) := pending_any kc.D wr ca d.pend.length cc (hT.A.hA.hD.cell 4 rfl)
      have hpa : Calls Try.prog 17 #[.pointer (some ⟨ka.D, 0, none⟩)] wr (NumQ d.pend.length wr) := pending_any ka.D wr aa d.pend.length ac (hT.A2.hA.hD.cell 4 rfl)
      have hpl3 : (d.pend.length : Int) ≤ 9223372036854775807 := by omega
      generalize d.pend.length = q at *
      have HRC := hide hrc
      have HRA := hide hra
      have HPC := hide hpc
      have HPA := hide hpa
      clear hrc hra hpc hpa hT
      go_wp2_with fail
      refine HRC.out.mono ?_
      rintro e w8 ⟨rfl, hw8⟩
      obtain rfl := hw8
      go_wp2_with fail
      refine HRA.out.mono ?_
      rintro e w8 ⟨rfl, hw8⟩
      obtain rfl := hw8
      go_wp2_with fail
      refine HPC.out.mono ?_
      rintro e w8 ⟨rfl, hw8⟩
      obtain rfl := hw8
      go_wp2_with fail
      refine HPA.out.mono ?_
      rintro e w8 ⟨rfl, hw8⟩
      obtain rfl := hw8
      go_wp2_with fail
      go_ret
      exact ⟨rfl, hbr⟩
end Go.Proofs.Ytednelejpkchbaa
