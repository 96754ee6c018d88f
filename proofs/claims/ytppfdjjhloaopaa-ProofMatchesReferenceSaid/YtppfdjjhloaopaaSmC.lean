/- The walk of some of the laws. Conditions: how the argument lies in memory. -/
import Derived.Test.YtppfdjjhloaopaaSmB
import Derived.Test.YtppfdjjhloaopaaSmA
/- Walks of Wrong, Refutes, Bounds and Size of the reference of package proof. Conditions: how the program and the proof lie in memory. -/
namespace Go.Proofs.Ytppfdjjhloaopaa
open Go.RowKit

set_option maxRecDepth 20000 in
set_option maxHeartbeats 2000000 in
theorem wrongR_any (p : ProgD) (rv gv : Value) (l : List StepD) (sv : Value) (w : World) (hr : RowsAt w rv p.rows) (hg : IntsAt w gv p.gain) (hs : StepsIn w.cell? sv l) :
    Calls Try.prog 20 #[progV p rv gv, sv] w (Ret (.int .i64 (wrongP p l)) w) := by
  obtain ⟨n, rows, gain⟩ := p
  obtain ⟨sa, sc, rfl, hs1, hs2, -⟩ := id hs
  obtain ⟨ra, rc, rfl, hr1, hr2, -⟩ := id hr
  obtain ⟨ga, gc, rfl, hg1, hg2, -⟩ := id hg
  have hsl : (l.length : Int) ≤ 9223372036854775807 := by omega
  have HCF : Hid (wrongP ⟨n, rows, gain⟩ l = if validB ⟨n, rows, gain⟩ && decide (l.length ≤ 8192) then (if l.length = 0 then 0 else wrongF rows l l.length 0 (List.replicate n.toNat (-1))) else -2) := hide rfl
  have HVP := hide (fun h : validB ⟨n, rows, gain⟩ = true => (⟨(valid_parts h).1, (valid_parts h).2.1, rows_ok h⟩ : 0 ≤ n ∧ n ≤ 12 ∧ RowsOk rows n.toNat))
  have HVA := hide (fun W (h : Below w.heap.size w W) => validr_any ⟨n, rows, gain⟩ _ _ W (hr.below h) (hg.below h))
  have HR := hide hr
  have HS := hide hs
  generalize wrongP ⟨n, rows, gain⟩ l = RES at HCF ⊢
  generalize validB ⟨n, rows, gain⟩ = V at HCF HVP HVA
  clear hr hg hs hr1 hr2 hg1 hg2 hs1 hs2
  go_enter Try.func20, Try.ntmps20
  go_wp2_with fail
  generalize hX1 : World.alloc w _ = X1
  have zX1 : X1.heap.size = w.heap.size + 1 := by rw [← hX1]; simp
  have bX1 : Below w.heap.size w X1 := by rw [← hX1]; exact bal w _
  have bP : Blk X1 (w.heap.size) [.int .i64 n, .slice ra rows.length rc, .slice ga gain.length gc] 27 := by rw [← hX1]; exact Blk.newA w _ (by first | rfl | simp)
  have Xb := bX1
  have Xz := zX1
  clear hX1 zX1 bX1
  have p0 := bP.cell 0 rfl
  have p1 := bP.cell 1 rfl
  have p2 := bP.cell 2 rfl
  go_wp2_with fail
  refine (HVA.out _ Xb).mono ?_
  rintro e w1 ⟨rfl, hb1⟩
  have hbw := below2 Xb hb1
  cases V
  · go_wp2_with fail
    go_ret
    exact ⟨by rw [HCF.out]; rfl, hbw⟩
  by_cases h1 : l.length ≤ 8192
  · have d1 : decide (8192 < (l.length : Int)) = false := decide_eq_false (by omega)
    by_cases h0 : l.length = 0
    · have q0 : ((l.length : Int) == 0) = true := by simp [h0]
      have HRES : Hid (RES = 0) := hide (by rw [HCF.out]; simp [h0])
      clear h0 h1
      go_wp2_with fail
      go_ret
      exact ⟨by rw [HRES.out]; rfl, hbw⟩
    · have q0 : (l.length == 0) = false := by simpa using h0
      have q1 : ((l.length : Int) == 0) = false := by simpa using h0
      have HRES : Hid (RES = wrongF rows l l.length 0 (List.replicate n.toNat (-1))) := hide (by rw [HCF.out]; simp [h0, h1])
      obtain ⟨v0, v12, hok⟩ := HVP.out rfl
      obtain ⟨N, hN⟩ : ∃ N : Nat, n = N := ⟨n.toNat, by omega⟩
      subst hN
      rw [Int.toNat_natCast] at HRES hok
      have hN12 : N ≤ 12 := by omega
      have HWA := hide (fun dv W (h : Below w.heap.size w W) hi => wrongr_any rows (.slice ra rows.length rc) (.slice sa l.length sc) l l.length 0 (List.replicate N (-1)) dv W (by omega) (by omega) (by simpa using hN12) (by simpa using hok) (HR.out.below h) (HS.out.keeps (keeps_of_below h)) hi)
      rw [← HRES.out] at HWA
      have HUD := hide (fun W => undecided_any N (.slice ra rows.length rc) (.slice ga gain.length gc) W hN12)
      have p0 := keep hb1 p0
      have p1 := keep hb1 p1
      have p2 := keep hb1 p2
      clear h1 HRES hok v0 v12 HCF HVP HVA
      go_wp2_with fail
      refine wp_region_inv [some 16, some 17, some 18, some 19, some 20, some 21, some 4] (fun L vs W => match vs with | [x0, x1, x2, x3, x4, x5, x6] => (Below w1.heap.size w1 W) ∧ (L 0 = true → x0 = .pointer (some ⟨w.heap.size, 1, none⟩)) ∧ (L 1 = true → x1 = .slice ra rows.length rc) ∧ (L 2 = true → x2 = .slice sa l.length sc) ∧ (L 3 = true → x3 = .agg #[.int .i64 N, .slice ra rows.length rc, .slice ga gain.length gc]) ∧ (L 4 = true → IntsAt W x4 (List.replicate N (-1))) ∧ (L 5 = true → x5 = .int .i64 RES) ∧ (L 6 = true → x6 = .int .i64 RES) | _ => False) [_, _, _, _, _, _, _] (by kernel_rfl) (by kernel_rfl) rfl (by simp only [puts, Act.put, List.setIfInBounds_toArray, List.set_cons_zero, List.set_cons_succ] <;> rfl) ?_ ?_ ?_
      · exact ⟨(Below.refl _ _).drew, (fun h => by cases h), (fun h => by cases h), (fun h => by cases h), (fun h => by cases h), (fun h => by cases h), (fun h => by cases h), (fun h => by cases h)⟩
      · refine ⟨?_, ?_, ?_, ?_, ?_, ?_, ?_, trivial⟩
        · intro L vs W hlen hL hD hI K hK
          obtain ⟨x0, x1, x2, x3, x4, x5, x6, rfl⟩ := len7 hlen
          have hG := hI.1
          replace hI := hI.2
          have f0 := hide hI.1
          replace hI := hI.2
          have f1 := hide hI.1
          replace hI := hI.2
          have f2 := hide hI.1
          replace hI := hI.2
          have f3 := hide hI.1
          replace hI := hI.2
          have f4 := hide hI.1
          replace hI := hI.2
          have f5 := hide hI.1
          replace hI := hI.2
          have f6 := hide hI
          clear hI
          have p0 := keep hG p0
          have p1 := keep hG p1
          have p2 := keep hG p2
          try simp only [puts, Act.put, List.setIfInBounds_toArray, List.set_cons_zero, List.set_cons_succ]
          try go_simp
          exact hK.out _ _ _ (by simp only [puts, Act.put, List.setIfInBounds_toArray, List.set_cons_zero, List.set_cons_succ] <;> rfl) ⟨hG, (fun _ => rfl), (fun h => f1.out h), (fun h => f2.out h), (fun h => f3.out h), (fun h => f4.out h), (fun h => f5.out h), (fun h => f6.out h)⟩
        · intro L vs W hlen hL hD hI K hK
          obtain ⟨x0, x1, x2, x3, x4, x5, x6, rfl⟩ := len7 hlen
          have hG := hI.1
          replace hI := hI.2
          have f0 := hide hI.1
          replace hI := hI.2
          have f1 := hide hI.1
          replace hI := hI.2
          have f2 := hide hI.1
          replace hI := hI.2
          have f3 := hide hI.1
          replace hI := hI.2
          have f4 := hide hI.1
          replace hI := hI.2
          have f5 := hide hI.1
          replace hI := hI.2
          have f6 := hide hI
          clear hI
          have p0 := keep hG p0
          have p1 := keep hG p1
          have p2 := keep hG p2
          obtain rfl := f0.out (hD.on 0 (by kernel_rfl))
          try simp only [puts, Act.put, List.setIfInBounds_toArray, List.set_cons_zero, List.set_cons_succ]
          try go_simp
          exact hK.out _ _ _ (by simp only [puts, Act.put, List.setIfInBounds_toArray, List.set_cons_zero, List.set_cons_succ] <;> rfl) ⟨hG, (fun h => f0.out h), (fun _ => rfl), (fun h => f2.out h), (fun h => f3.out h), (fun h => f4.out h), (fun h => f5.out h), (fun h => f6.out h)⟩
        · intro L vs W hlen hL hD hI K hK
          obtain ⟨x0, x1, x2, x3, x4, x5, x6, rfl⟩ := len7 hlen
          have hG := hI.1
          replace hI := hI.2
          have f0 := hide hI.1
          replace hI := hI.2
          have f1 := hide hI.1
          replace hI := hI.2
          have f2 := hide hI.1
          replace hI := hI.2
          have f3 := hide hI.1
          replace hI := hI.2
          have f4 := hide hI.1
          replace hI := hI.2
          have f5 := hide hI.1
          replace hI := hI.2
          have f6 := hide hI
          clear hI
          have p0 := keep hG p0
          have p1 := keep hG p1
          have p2 := keep hG p2
          try simp only [puts, Act.put, List.setIfInBounds_toArray, List.set_cons_zero, List.set_cons_succ]
          try go_simp
          exact hK.out _ _ _ (by simp only [puts, Act.put, List.setIfInBounds_toArray, List.set_cons_zero, List.set_cons_succ] <;> rfl) ⟨hG, (fun h => f0.out h), (fun h => f1.out h), (fun _ => rfl), (fun h => f3.out h), (fun h => f4.out h), (fun h => f5.out h), (fun h => f6.out h)⟩
        · intro L vs W hlen hL hD hI K hK
          obtain ⟨x0, x1, x2, x3, x4, x5, x6, rfl⟩ := len7 hlen
          have hG := hI.1
          replace hI := hI.2
          have f0 := hide hI.1
          replace hI := hI.2
          have f1 := hide hI.1
          replace hI := hI.2
          have f2 := hide hI.1
          replace hI := hI.2
          have f3 := hide hI.1
          replace hI := hI.2
          have f4 := hide hI.1
          replace hI := hI.2
          have f5 := hide hI.1
          replace hI := hI.2
          have f6 := hide hI
          clear hI
          have p0 := keep hG p0
          have p1 := keep hG p1
          have p2 := keep hG p2
          try simp only [puts, Act.put, List.setIfInBounds_toArray, List.set_cons_zero, List.set_cons_succ]
          try go_simp
          exact hK.out _ _ _ (by simp only [puts, Act.put, List.setIfInBounds_toArray, List.set_cons_zero, List.set_cons_succ] <;> rfl) ⟨hG, (fun h => f0.out h), (fun h => f1.out h), (fun h => f2.out h), (fun _ => rfl), (fun h => f4.out h), (fun h => f5.out h), (fun h => f6.out h)⟩
        · intro L vs W hlen hL hD hI K hK
          obtain ⟨x0, x1, x2, x3, x4, x5, x6, rfl⟩ := len7 hlen
          have hG := hI.1
          replace hI := hI.2
          have f0 := hide hI.1
          replace hI := hI.2
          have f1 := hide hI.1
          replace hI := hI.2
          have f2 := hide hI.1
          replace hI := hI.2
          have f3 := hide hI.1
          replace hI := hI.2
          have f4 := hide hI.1
          replace hI := hI.2
          have f5 := hide hI.1
          replace hI := hI.2
          have f6 := hide hI
          clear hI
          have p0 := keep hG p0
          have p1 := keep hG p1
          have p2 := keep hG p2
          obtain rfl := f3.out (hD.on 3 (by kernel_rfl))
          try simp only [puts, Act.put, List.setIfInBounds_toArray, List.set_cons_zero, List.set_cons_succ]
          try go_simp
          refine (HUD.out W).mono ?_
          rintro e W' ⟨vv, rfl, hvv, hbb⟩
          try go_simp
          have hb := hbb
          exact hK.out _ _ _ (by simp only [puts, Act.put, List.setIfInBounds_toArray, List.set_cons_zero, List.set_cons_succ] <;> rfl) ⟨below2 hG hb, (fun h => f0.out h), (fun h => f1.out h), (fun h => f2.out h), (fun h => f3.out h), (fun _ => hvv.keeps (keeps_frm _ _)), (fun h => f5.out h), (fun h => f6.out h)⟩
        · intro L vs W hlen hL hD hI K hK
          obtain ⟨x0, x1, x2, x3, x4, x5, x6, rfl⟩ := len7 hlen
          have hG := hI.1
          replace hI := hI.2
          have f0 := hide hI.1
          replace hI := hI.2
          have f1 := hide hI.1
          replace hI := hI.2
          have f2 := hide hI.1
          replace hI := hI.2
          have f3 := hide hI.1
          replace hI := hI.2
          have f4 := hide hI.1
          replace hI := hI.2
          have f5 := hide hI.1
          replace hI := hI.2
          have f6 := hide hI
          clear hI
          have p0 := keep hG p0
          have p1 := keep hG p1
          have p2 := keep hG p2
          obtain rfl := f1.out (hD.on 1 (by kernel_rfl))
          obtain rfl := f2.out (hD.on 2 (by kernel_rfl))
          have g4 := f4.out (hD.on 4 (by kernel_rfl))
          try simp only [puts, Act.put, List.setIfInBounds_toArray, List.set_cons_zero, List.set_cons_succ]
          try go_simp
          refine (HWA.out _ W (below2 hbw hG) g4).mono ?_
          rintro e W' ⟨rfl, hbb⟩
          try go_simp
          have hb := hbb
          exact hK.out _ _ _ (by simp only [puts, Act.put, List.setIfInBounds_toArray, List.set_cons_zero, List.set_cons_succ] <;> rfl) ⟨below2 hG hb, (fun h => f0.out h), (fun h => f1.out h), (fun h => f2.out h), (fun h => f3.out h), (fun h => (fun h => IntsAt.below hb h) (f4.out h)), (fun _ => rfl), (fun h => f6.out h)⟩
        · intro L vs W hlen hL hD hI K hK
          obtain ⟨x0, x1, x2, x3, x4, x5, x6, rfl⟩ := len7 hlen
          have hG := hI.1
          replace hI := hI.2
          have f0 := hide hI.1
          replace hI := hI.2
          have f1 := hide hI.1
          replace hI := hI.2
          have f2 := hide hI.1
          replace hI := hI.2
          have f3 := hide hI.1
          replace hI := hI.2
          have f4 := hide hI.1
          replace hI := hI.2
          have f5 := hide hI.1
          replace hI := hI.2
          have f6 := hide hI
          clear hI
          have p0 := keep hG p0
          have p1 := keep hG p1
          have p2 := keep hG p2
          obtain rfl := f5.out (hD.on 5 (by kernel_rfl))
          try simp only [puts, Act.put, List.setIfInBounds_toArray, List.set_cons_zero, List.set_cons_succ]
          try go_simp
          exact hK.out _ _ _ (by simp only [puts, Act.put, List.setIfInBounds_toArray, List.set_cons_zero, List.set_cons_succ] <;> rfl) ⟨hG, (fun h => f0.out h), (fun h => f1.out h), (fun h => f2.out h), (fun h => f3.out h), (fun h => f4.out h), (fun h => f5.out h), (fun _ => rfl)⟩
      intro L vs W hlen hall hI
      obtain ⟨x0, x1, x2, x3, x4, x5, x6, rfl⟩ := len7 hlen
      have hG := hI.1
      replace hI := hI.2
      have f0 := hide hI.1
      replace hI := hI.2
      have f1 := hide hI.1
      replace hI := hI.2
      have f2 := hide hI.1
      replace hI := hI.2
      have f3 := hide hI.1
      replace hI := hI.2
      have f4 := hide hI.1
      replace hI := hI.2
      have f5 := hide hI.1
      replace hI := hI.2
      have f6 := hide hI
      clear hI
      obtain rfl := f0.out (hall 0 (by decide))
      obtain rfl := f1.out (hall 1 (by decide))
      obtain rfl := f2.out (hall 2 (by decide))
      obtain rfl := f3.out (hall 3 (by decide))
      have g4 := f4.out (hall 4 (by decide))
      obtain rfl := f5.out (hall 5 (by decide))
      obtain rfl := f6.out (hall 6 (by decide))
      have hal := hide hall
      clear hall f0 f1 f2 f3 f4 f5 f6
      try simp only [puts, Act.put, List.setIfInBounds_toArray, List.set_cons_zero, List.set_cons_succ]
      have hfin := below2 hbw hG
      go_wp2_with fail
      go_ret
      exact ⟨rfl, hfin⟩
  · have d1 : decide (8192 < (l.length : Int)) = true := decide_eq_true (by omega)
    have HRES : Hid (RES = -2) := hide (by rw [HCF.out]; simp [h1])
    clear h1
    go_wp2_with fail
    go_ret
    exact ⟨by rw [HRES.out]; rfl, hbw⟩
theorem refutesR_any (p : ProgD) (rv gv : Value) (l : List StepD) (sv : Value) (w : World) (hr : RowsAt w rv p.rows) (hg : IntsAt w gv p.gain) (hs : StepsIn w.cell? sv l) :
    Calls Try.prog 18 #[progV p rv gv, sv] w (Ret (.bool (refB p l)) w) := by
  obtain ⟨w0, hw0, hb0, d0, d1, d2⟩ := boxedProg w p.vars rv gv
  rw [← hw0] at hb0 d0 d1 d2
  have HC := hide (wrongR_any p rv gv l sv _ (hr.below hb0) (hg.below hb0) (hs.keeps (keeps_of_below hb0)))
  have HF : Hid (refB p l = decide (wrongP p l = -1)) := hide rfl
  clear hr hg hs hw0
  obtain ⟨CF, hCF⟩ : ∃ CF, wrongP p l = CF := ⟨_, rfl⟩
  rw [hCF] at HC HF
  clear hCF
  go_enter Try.func18, Try.ntmps18
  go_wp2_with (go_at_call 20; refine HC.out.mono ?_; rintro e w1 ⟨rfl, hb1⟩)
  go_ret
  exact ⟨ret_bool (by rw [HF.out]; first | rfl | (by_cases h : CF = -1 <;> simp [h])), below2 hb0 hb1⟩
set_option maxRecDepth 20000 in
set_option maxHeartbeats 2000000 in
theorem sizeR_any (l : List StepD) (sv : Value) (w : World) (hs : StepsIn w.cell? sv l) :
    Calls Try.prog 16 #[sv] w (Ret (.tuple #[.int .i64 (l.length - leavesN l l.length), .int .i64 (leavesN l l.length)]) w) := by
  obtain ⟨sa, sc, rfl, hsn, hsm, hsk⟩ := id hs
  have hsl : (l.length : Int) ≤ 9223372036854775807 := by have : l.length ≤ sc := hsn; omega
  clear hsn hsm hs
  have HK := hide hsk
  clear hsk
  go_enter Try.func16, Try.ntmps16
  go_wp2_with fail
  go_loopw [4, 5] (fun c i wr => ∃ k : Nat, k ≤ l.length ∧ i = .int .i64 k ∧ c = .int .i64 (k - leavesN l k) ∧ Below w.heap.size w wr) (fun _ i _ => l.length - (intOf i).toNat)
  case atStart => exact ⟨0, by omega, rfl, rfl, Below.refl _ _⟩
  case round =>
    obtain ⟨k, hk, rfl, rfl, hb⟩ := hrel
    have hle := leavesN_le l k
    by_cases hlt : k < l.length
    · obtain ⟨sb, so, wv, rfl, s0, s1, s2, s3, hW⟩ := HK.out k hlt
      have c0 := keep hb s0
      have hkl : decide (k < l.length) = true := by simpa using hlt
      have HS := hide (leavesN_succ hlt)
      clear hW s0 s1 s2 s3
      generalize leavesN l k = c at *
      generalize l.getD k st0 = s at *
      obtain ⟨sv, sn, sy, ws⟩ := s
      dsimp only at *
      by_cases hv : sv = -1
      · subst hv
        rw [if_pos rfl] at HS
        go_wp2_with fail
        go_roundw
        case rel => exact ⟨k + 1, by omega, by go_num, by rw [HS.out]; congr 1; omega, hb⟩
        case measure => simp [intOf]; omega
      · have q0 : (sv == -1) = false := by simpa using hv
        rw [if_neg hv] at HS
        clear hv
        have e1 : IntKind.i64.wrap ((k : Int) - c + 1) = (k : Int) - c + 1 := IntWalk.i64_in _ ⟨by omega, by omega⟩
        go_wp2_with fail
        go_roundw
        case rel => exact ⟨k + 1, by omega, by go_num, by rw [HS.out]; congr 1; omega, hb⟩
        case measure => simp [intOf]; omega
    · obtain rfl : k = l.length := by omega
      have e1 : IntKind.i64.wrap ((l.length : Int) - (l.length - leavesN l l.length)) = leavesN l l.length := by rw [show (l.length : Int) - (l.length - leavesN l l.length) = leavesN l l.length by omega]; exact IntWalk.i64_in _ ⟨by omega, by omega⟩
      go_wp2_with fail
      go_ret2
      exact ⟨rfl, hb⟩
set_option maxRecDepth 20000 in
set_option maxHeartbeats 4000000 in
theorem boundsR_any (p : ProgD) (rv gv : Value) (l : List StepD) (sv : Value) (g : Int) (w : World) (hr : RowsAt w rv p.rows) (hg : IntsAt w gv p.gain) (hs : StepsIn w.cell? sv l) :
    Calls Try.prog 26 #[progV p rv gv, sv, .int .i64 g] w (Ret (.bool (boundsB p l g)) w) := by
  obtain ⟨n, rows, gain⟩ := p
  obtain ⟨sa, sc, rfl, hs1, hs2, -⟩ := id hs
  obtain ⟨ra, rc, rfl, hr1, hr2, -⟩ := id hr
  obtain ⟨ga, gc, rfl, hg1, hg2, -⟩ := id hg
  have hsl : (l.length : Int) ≤ 9223372036854775807 := by omega
  have HCF : Hid (boundsB ⟨n, rows, gain⟩ l g = (isInB (-12000000000) g 12000000000 && decide ((if validB ⟨n, rows, gain⟩ && decide (l.length ≤ 8192) then (if l.length = 0 then (0 : Int) else wrongF (rows ++ [goalF gain g]) l l.length 0 (List.replicate n.toNat (-1))) else -2) = -1))) := hide rfl
  have HVP := hide (fun (h : validB ⟨n, rows, gain⟩ = true) (h1 : -100000000000 ≤ g) (h2 : g ≤ 100000000000) => (⟨(valid_parts h).1, (valid_parts h).2.1, (valid_parts h).2.2.1, (valid_parts h).2.2.2.2.1, (valid_parts h).2.2.2.2.2, with_ok h g h1 h2⟩ : 0 ≤ n ∧ n ≤ 12 ∧ rows.length ≤ 300 ∧ (gain.length : Int) = n ∧ coefsB gain = true ∧ RowsOk (rows ++ [goalF gain g]) n.toNat))
  have HVA := hide (fun W (h : Below w.heap.size w W) => validr_any ⟨n, rows, gain⟩ _ _ W (hr.below h) (hg.below h))
  have HR := hide hr
  have HG := hide hg
  have HS := hide hs
  generalize boundsB ⟨n, rows, gain⟩ l g = RES at HCF ⊢
  generalize validB ⟨n, rows, gain⟩ = V at HCF HVP HVA
  clear hr hg hs hr1 hr2 hg1 hg2 hs1 hs2
  go_enter Try.func26, Try.ntmps26
  go_wp2_with fail
  generalize hX1 : World.alloc w _ = X1
  have zX1 : X1.heap.size = w.heap.size + 1 := by rw [← hX1]; simp
  have bX1 : Below w.heap.size w X1 := by rw [← hX1]; exact bal w _
  have bP : Blk X1 (w.heap.size) [.int .i64 n, .slice ra rows.length rc, .slice ga gain.length gc] 27 := by rw [← hX1]; exact Blk.newA w _ (by first | rfl | simp)
  have Xb := bX1
  have Xz := zX1
  clear hX1 zX1 bX1
  have p0 := bP.cell 0 rfl
  have p1 := bP.cell 1 rfl
  have p2 := bP.cell 2 rfl
  go_wp2_with fail
  refine (HVA.out _ Xb).mono ?_
  rintro e w1 ⟨rfl, hb1⟩
  have hbw := below2 Xb hb1
  cases V
  · have HRES : Hid (RES = false) := hide (by rw [HCF.out]; simp)
    go_wp2_with fail
    go_ret
    exact ⟨ret_bool (by rw [HRES.out]), hbw⟩
  by_cases h1n : ¬ l.length ≤ 8192
  · have h1 := h1n
    clear h1n
    have d1 : decide (8192 < (l.length : Int)) = true := decide_eq_true (by omega)
    have HRES : Hid (RES = false) := hide (by rw [HCF.out]; simp [h1])
    clear h1
    go_wp2_with fail
    go_ret
    exact ⟨ret_bool (by rw [HRES.out]), hbw⟩
  have h1 : l.length ≤ 8192 := Decidable.not_not.1 h1n
  clear h1n
  have d1 : decide (8192 < (l.length : Int)) = false := decide_eq_false (by omega)
  by_cases h0 : l.length = 0
  · have q0 : ((l.length : Int) == 0) = true := by simp [h0]
    have HRES : Hid (RES = false) := hide (by rw [HCF.out]; simp [h0])
    clear h0 h1
    go_wp2_with fail
    go_ret
    exact ⟨ret_bool (by rw [HRES.out]), hbw⟩
  have q0 : (l.length == 0) = false := by simpa using h0
  have q1 : ((l.length : Int) == 0) = false := by simpa using h0
  by_cases h2 : g < -12000000000
  · have d2 : decide (g < -12000000000) = true := decide_eq_true h2
    have HRES : Hid (RES = false) := hide (by rw [HCF.out]; simp [isInB]; omega)
    clear h2 h0 h1
    go_wp2_with fail
    go_ret
    exact ⟨ret_bool (by rw [HRES.out]), hbw⟩
  by_cases h3 : 12000000000 < g
  · have d2 : decide (g < -12000000000) = false := decide_eq_false h2
    have d3 : decide (12000000000 < g) = true := decide_eq_true h3
    have HRES : Hid (RES = false) := hide (by rw [HCF.out]; simp [isInB]; omega)
    clear h2 h3 h0 h1
    go_wp2_with fail
    go_ret
    exact ⟨ret_bool (by rw [HRES.out]), hbw⟩
  have d2 : decide (g < -12000000000) = false := decide_eq_false h2
  have d3 : decide (12000000000 < g) = false := decide_eq_false h3
  obtain ⟨v0, v12, v300, hgl, hgc, hok⟩ := HVP.out rfl (by omega) (by omega)
  obtain ⟨n, rfl⟩ : ∃ N : Nat, n = N := ⟨n.toNat, by omega⟩
  rw [Int.toNat_natCast] at HCF hok
  have hN12 : n ≤ 12 := by omega
  have HRES : Hid (RES = decide (wrongF (rows ++ [goalF gain g]) l l.length 0 (List.replicate n (-1)) = -1)) := hide (by rw [HCF.out]; simp only [isInB, Bool.true_and, h1, decide_true, if_true]; rw [if_neg h0, decide_eq_true (by omega), Bool.true_and])
  have HWA := hide (fun rv dv W (h : Below w.heap.size w W) hrr hi => wrongr_any (rows ++ [goalF gain g]) rv (.slice sa l.length sc) l l.length 0 (List.replicate n (-1)) dv W (by omega) (by omega) (by simpa using hN12) (by simpa using hok) hrr (HS.out.keeps (keeps_of_below h)) hi)
  generalize wrongF (rows ++ [goalF gain g]) l l.length 0 (List.replicate n (-1)) = WV at HRES HWA
  have HUD := hide (fun W => undecided_any n (.slice ra rows.length rc) (.slice ga gain.length gc) W hN12)
  have hgl2 : gain.length ≤ 13 := by omega
  have HGA := hide (fun W (h : Below w.heap.size w W) => goalr_any n gain (.slice ra rows.length rc) (.slice ga gain.length gc) g W (HG.out.below h) hgl2 hgc (by omega) (by omega))
  have p0 := keep hb1 p0
  have p1 := keep hb1 p1
  have p2 := keep hb1 p2
  obtain ⟨Lr, hLl, hL6, hLone, hLs, -, hLt⟩ := rows_from (RowsAt.to (HR.out.below hbw))
  have hLt2 := hLt rows.length
  rw [List.take_of_length_le (Nat.le_of_eq hLl)] at hLt2
  have HLl := hide hLl
  have HLs := hide hLs
  have HLt := hide hLt2
  have HL6 := hide hL6
  have HLone := hide hLone
  have hLr8 : Lr.length ≤ 300 := by rw [hLl]; exact v300
  clear h1 h0 h2 h3 hok v0 v12 HCF HVP HVA hLl hL6 hLone hLs hLt hLt2 hgl hgc HG HR
  go_wp2_with fail
  refine wp_region_inv [some 29, some 30, some 31, some 32, some 33, some 34, some 35, some 36, some 37, some 7] (fun L vs W => match vs with | [x0, x1, x2, x3, x4, x5, x6, x7, x8, x9] => (Below w1.heap.size w1 W) ∧ (L 0 = true → L 3 = false → ∃ b0 : Nat, w1.heap.size ≤ b0 ∧ x0 = .slice (some ⟨b0, 0, none⟩) 0 0 ∧ Blk W b0 [] 67) ∧ (L 1 = true → x1 = .pointer (some ⟨w.heap.size, 1, none⟩)) ∧ (L 2 = true → x2 = .slice ra rows.length rc) ∧ (L 3 = true → L 8 = false → OwnR W w1.heap.size 67 6 x3 Lr) ∧ (L 4 = true → x4 = .agg #[.int .i64 n, .slice ra rows.length rc, .slice ga gain.length gc]) ∧ (L 5 = true → x5 = .int .i64 g) ∧ (L 6 = true → L 7 = false → ∃ b7 : Nat, x6 = rowV (goalF gain g) (.slice (some ⟨b7, 0, none⟩) gain.length gain.length) ∧ Blk W b7 ((goalF gain g).coef.map (Value.int .i64)) 3) ∧ (L 7 = true → L 8 = false → GoalAt gain g w1.heap.size W x7) ∧ (L 8 = true → L 3 = true ∧ RowsAt W x8 (rows ++ [goalF gain g])) ∧ (L 9 = true → L 8 = true ∧ RowsAt W x9 (rows ++ [goalF gain g])) | _ => False) [_, _, _, _, _, _, _, _, _, _] (by kernel_rfl) (by kernel_rfl) rfl (by simp only [puts, Act.put, List.setIfInBounds_toArray, List.set_cons_zero, List.set_cons_succ] <;> rfl) ?_ ?_ ?_
  · exact ⟨(Below.refl _ _).drew, (fun h => by cases h), (fun h => by cases h), (fun h => by cases h), (fun h => by cases h), (fun h => by cases h), (fun h => by cases h), (fun h => by cases h), (fun h => by cases h), (fun h => by cases h), (fun h => by cases h)⟩
  · refine ⟨?_, ?_, ?_, ?_, ?_, ?_, ?_, ?_, ?_, ?_, trivial⟩
    · intro L vs W hlen hL hD hI K hK
      obtain ⟨x0, x1, x2, x3, x4, x5, x6, x7, x8, x9, rfl⟩ := len10 hlen
      have hG := hI.1
      replace hI := hI.2
      have f0 := hide hI.1
      replace hI := hI.2
      have f1 := hide hI.1
      replace hI := hI.2
      have f2 := hide hI.1
      replace hI := hI.2
      have f3 := hide hI.1
      replace hI := hI.2
      have f4 := hide hI.1
      replace hI := hI.2
      have f5 := hide hI.1
      replace hI := hI.2
      have f6 := hide hI.1
      replace hI := hI.2
      have f7 := hide hI.1
      replace hI := hI.2
      have f8 := hide hI.1
      replace hI := hI.2
      have f9 := hide hI
      clear hI
      have p0 := keep hG p0
      have p1 := keep hG p1
      have p2 := keep hG p2
      try simp only [puts, Act.put, List.setIfInBounds_toArray, List.set_cons_zero, List.set_cons_succ]
      try go_simp
      generalize hW' : World.alloc W _ = W'
      have hb : Below W.heap.size W W' := by rw [← hW']; exact bal W _
      exact hK.out _ _ _ (by simp only [puts, Act.put, List.setIfInBounds_toArray, List.set_cons_zero, List.set_cons_succ] <;> rfl) ⟨below2 hG hb, (fun _ => fun _ => ⟨W.heap.size, hG.size, rfl, by rw [← hW'] ; exact Blk.newA W _ rfl⟩), (fun h => f1.out h), (fun h => f2.out h), (fun h => (fun h => fun h9 => (h h9).later' hb) (f3.out h)), (fun h => f4.out h), (fun h => f5.out h), (fun h => (fun h => fun h8 => let ⟨b7, e, hB⟩ := h h8; ⟨b7, e, hB.later hb⟩) (f6.out h)), (fun h => (fun h => fun h9 => (h h9).later hb) (f7.out h)), (fun h => (fun h => ⟨h.1, h.2.below hb⟩) (f8.out h)), (fun h => (fun h => ⟨h.1, h.2.below hb⟩) (f9.out h))⟩
    · intro L vs W hlen hL hD hI K hK
      obtain ⟨x0, x1, x2, x3, x4, x5, x6, x7, x8, x9, rfl⟩ := len10 hlen
      have hG := hI.1
      replace hI := hI.2
      have f0 := hide hI.1
      replace hI := hI.2
      have f1 := hide hI.1
      replace hI := hI.2
      have f2 := hide hI.1
      replace hI := hI.2
      have f3 := hide hI.1
      replace hI := hI.2
      have f4 := hide hI.1
      replace hI := hI.2
      have f5 := hide hI.1
      replace hI := hI.2
      have f6 := hide hI.1
      replace hI := hI.2
      have f7 := hide hI.1
      replace hI := hI.2
      have f8 := hide hI.1
      replace hI := hI.2
      have f9 := hide hI
      clear hI
      have p0 := keep hG p0
      have p1 := keep hG p1
      have p2 := keep hG p2
      try simp only [puts, Act.put, List.setIfInBounds_toArray, List.set_cons_zero, List.set_cons_succ]
      try go_simp
      exact hK.out _ _ _ (by simp only [puts, Act.put, List.setIfInBounds_toArray, List.set_cons_zero, List.set_cons_succ] <;> rfl) ⟨hG, (fun h => f0.out h), (fun _ => rfl), (fun h => f2.out h), (fun h => f3.out h), (fun h => f4.out h), (fun h => f5.out h), (fun h => f6.out h), (fun h => f7.out h), (fun h => f8.out h), (fun h => f9.out h)⟩
    · intro L vs W hlen hL hD hI K hK
      obtain ⟨x0, x1, x2, x3, x4, x5, x6, x7, x8, x9, rfl⟩ := len10 hlen
      have hG := hI.1
      replace hI := hI.2
      have f0 := hide hI.1
      replace hI := hI.2
      have f1 := hide hI.1
      replace hI := hI.2
      have f2 := hide hI.1
      replace hI := hI.2
      have f3 := hide hI.1
      replace hI := hI.2
      have f4 := hide hI.1
      replace hI := hI.2
      have f5 := hide hI.1
      replace hI := hI.2
      have f6 := hide hI.1
      replace hI := hI.2
      have f7 := hide hI.1
      replace hI := hI.2
      have f8 := hide hI.1
      replace hI := hI.2
      have f9 := hide hI
      clear hI
      have p0 := keep hG p0
      have p1 := keep hG p1
      have p2 := keep hG p2
      obtain rfl := f1.out (hD.on 1 (by kernel_rfl))
      try simp only [puts, Act.put, List.setIfInBounds_toArray, List.set_cons_zero, List.set_cons_succ]
      try go_simp
      exact hK.out _ _ _ (by simp only [puts, Act.put, List.setIfInBounds_toArray, List.set_cons_zero, List.set_cons_succ] <;> rfl) ⟨hG, (fun h => f0.out h), (fun h => f1.out h), (fun _ => rfl), (fun h => f3.out h), (fun h => f4.out h), (fun h => f5.out h), (fun h => f6.out h), (fun h => f7.out h), (fun h => f8.out h), (fun h => f9.out h)⟩
    · intro L vs W hlen hL hD hI K hK
      obtain ⟨x0, x1, x2, x3, x4, x5, x6, x7, x8, x9, rfl⟩ := len10 hlen
      have hG := hI.1
      replace hI := hI.2
      have f0 := hide hI.1
      replace hI := hI.2
      have f1 := hide hI.1
      replace hI := hI.2
      have f2 := hide hI.1
      replace hI := hI.2
      have f3 := hide hI.1
      replace hI := hI.2
      have f4 := hide hI.1
      replace hI := hI.2
      have f5 := hide hI.1
      replace hI := hI.2
      have f6 := hide hI.1
      replace hI := hI.2
      have f7 := hide hI.1
      replace hI := hI.2
      have f8 := hide hI.1
      replace hI := hI.2
      have f9 := hide hI
      clear hI
      have p0 := keep hG p0
      have p1 := keep hG p1
      have p2 := keep hG p2
      have g0 := f0.out (hD.on 0 (by kernel_rfl))
      obtain rfl := f2.out (hD.on 2 (by kernel_rfl))
      try simp only [puts, Act.put, List.setIfInBounds_toArray, List.set_cons_zero, List.set_cons_succ]
      obtain ⟨b0, hb0, rfl, hB0⟩ := g0 hL
      refine step_app_recs3 infoRow rfl (by decide) Try.underlying24 rfl _ _ rfl w1.heap.size _ [] rfl (OwnR.empty hB0 hb0) _ _ _ Lr HLl.out.symm rfl HL6.out HLone.out (fun b hb j u hj => keep hG (HLt.out.1 b hb j u hj)) HLt.out.2 (by simp only [List.length_nil, Nat.zero_add] ; omega) (by simp only [List.length_nil, Nat.zero_add] ; omega) hG.size ?_
      intro v' W' hO hg
      have hg' : W.grownBy W' (some b0) := hg
      have hb := below_own (OwnR.empty (k := 6) hB0 hb0) hG.size hg
      exact hK.out _ _ _ (by simp only [puts, Act.put, List.setIfInBounds_toArray, List.set_cons_zero, List.set_cons_succ] <;> rfl) ⟨hG.trans hb, (fun h => (fun _ h3 => absurd h3 (by simp)) (f0.out h)), (fun h => f1.out h), (fun h => f2.out h), (fun _ => fun _ => by simpa using hO), (fun h => f4.out h), (fun h => f5.out h), (fun h => (fun h h8 => let ⟨b7, e, hB⟩ := h h8; ⟨b7, e, hB.grown hg' (by have := hB0.ne hB (by decide) ; simpa using this)⟩) (f6.out h)), (fun h => (fun h h9 => (h h9).grown hB0 hg') (f7.out h)), (fun h => (fun h => absurd (h.1.symm.trans hL) (by decide)) (f8.out h)), (fun h => (fun h => absurd ((f8.out h.1).1.symm.trans hL) (by decide)) (f9.out h))⟩
    · intro L vs W hlen hL hD hI K hK
      obtain ⟨x0, x1, x2, x3, x4, x5, x6, x7, x8, x9, rfl⟩ := len10 hlen
      have hG := hI.1
      replace hI := hI.2
      have f0 := hide hI.1
      replace hI := hI.2
      have f1 := hide hI.1
      replace hI := hI.2
      have f2 := hide hI.1
      replace hI := hI.2
      have f3 := hide hI.1
      replace hI := hI.2
      have f4 := hide hI.1
      replace hI := hI.2
      have f5 := hide hI.1
      replace hI := hI.2
      have f6 := hide hI.1
      replace hI := hI.2
      have f7 := hide hI.1
      replace hI := hI.2
      have f8 := hide hI.1
      replace hI := hI.2
      have f9 := hide hI
      clear hI
      have p0 := keep hG p0
      have p1 := keep hG p1
      have p2 := keep hG p2
      try simp only [puts, Act.put, List.setIfInBounds_toArray, List.set_cons_zero, List.set_cons_succ]
      try go_simp
      exact hK.out _ _ _ (by simp only [puts, Act.put, List.setIfInBounds_toArray, List.set_cons_zero, List.set_cons_succ] <;> rfl) ⟨hG, (fun h => f0.out h), (fun h => f1.out h), (fun h => f2.out h), (fun h => f3.out h), (fun _ => rfl), (fun h => f5.out h), (fun h => f6.out h), (fun h => f7.out h), (fun h => f8.out h), (fun h => f9.out h)⟩
    · intro L vs W hlen hL hD hI K hK
      obtain ⟨x0, x1, x2, x3, x4, x5, x6, x7, x8, x9, rfl⟩ := len10 hlen
      have hG := hI.1
      replace hI := hI.2
      have f0 := hide hI.1
      replace hI := hI.2
      have f1 := hide hI.1
      replace hI := hI.2
      have f2 := hide hI.1
      replace hI := hI.2
      have f3 := hide hI.1
      replace hI := hI.2
      have f4 := hide hI.1
      replace hI := hI.2
      have f5 := hide hI.1
      replace hI := hI.2
      have f6 := hide hI.1
      replace hI := hI.2
      have f7 := hide hI.1
      replace hI := hI.2
      have f8 := hide hI.1
      replace hI := hI.2
      have f9 := hide hI
      clear hI
      have p0 := keep hG p0
      have p1 := keep hG p1
      have p2 := keep hG p2
      try simp only [puts, Act.put, List.setIfInBounds_toArray, List.set_cons_zero, List.set_cons_succ]
      try go_simp
      exact hK.out _ _ _ (by simp only [puts, Act.put, List.setIfInBounds_toArray, List.set_cons_zero, List.set_cons_succ] <;> rfl) ⟨hG, (fun h => f0.out h), (fun h => f1.out h), (fun h => f2.out h), (fun h => f3.out h), (fun h => f4.out h), (fun _ => rfl), (fun h => f6.out h), (fun h => f7.out h), (fun h => f8.out h), (fun h => f9.out h)⟩
    · intro L vs W hlen hL hD hI K hK
      obtain ⟨x0, x1, x2, x3, x4, x5, x6, x7, x8, x9, rfl⟩ := len10 hlen
      have hG := hI.1
      replace hI := hI.2
      have f0 := hide hI.1
      replace hI := hI.2
      have f1 := hide hI.1
      replace hI := hI.2
      have f2 := hide hI.1
      replace hI := hI.2
      have f3 := hide hI.1
      replace hI := hI.2
      have f4 := hide hI.1
      replace hI := hI.2
      have f5 := hide hI.1
      replace hI := hI.2
      have f6 := hide hI.1
      replace hI := hI.2
      have f7 := hide hI.1
      replace hI := hI.2
      have f8 := hide hI.1
      replace hI := hI.2
      have f9 := hide hI
      clear hI
      have p0 := keep hG p0
      have p1 := keep hG p1
      have p2 := keep hG p2
      obtain rfl := f4.out (hD.on 4 (by kernel_rfl))
      obtain rfl := f5.out (hD.on 5 (by kernel_rfl))
      try simp only [puts, Act.put, List.setIfInBounds_toArray, List.set_cons_zero, List.set_cons_succ]
      try go_simp
      refine (HGA.out W (below2 hbw hG)).mono ?_
      rintro e W' ⟨b7, hb7, rfl, hB7, hbb⟩
      try go_simp
      have hb := hbb
      exact hK.out _ _ _ (by simp only [puts, Act.put, List.setIfInBounds_toArray, List.set_cons_zero, List.set_cons_succ] <;> rfl) ⟨below2 hG hb, (fun h => (fun h => fun h3 => let ⟨b0, a1, a2, a3⟩ := h h3; ⟨b0, a1, a2, a3.later hb⟩) (f0.out h)), (fun h => f1.out h), (fun h => f2.out h), (fun h => (fun h => fun h9 => (h h9).later' hb) (f3.out h)), (fun h => f4.out h), (fun h => f5.out h), (fun _ => fun _ => ⟨b7, rfl, hB7⟩), (fun h => (fun h => fun h9 => (h h9).later hb) (f7.out h)), (fun h => (fun h => ⟨h.1, h.2.below hb⟩) (f8.out h)), (fun h => (fun h => ⟨h.1, h.2.below hb⟩) (f9.out h))⟩
    · intro L vs W hlen hL hD hI K hK
      obtain ⟨x0, x1, x2, x3, x4, x5, x6, x7, x8, x9, rfl⟩ := len10 hlen
      have hG := hI.1
      replace hI := hI.2
      have f0 := hide hI.1
      replace hI := hI.2
      have f1 := hide hI.1
      replace hI := hI.2
      have f2 := hide hI.1
      replace hI := hI.2
      have f3 := hide hI.1
      replace hI := hI.2
      have f4 := hide hI.1
      replace hI := hI.2
      have f5 := hide hI.1
      replace hI := hI.2
      have f6 := hide hI.1
      replace hI := hI.2
      have f7 := hide hI.1
      replace hI := hI.2
      have f8 := hide hI.1
      replace hI := hI.2
      have f9 := hide hI
      clear hI
      have p0 := keep hG p0
      have p1 := keep hG p1
      have p2 := keep hG p2
      have g6 := f6.out (hD.on 6 (by kernel_rfl))
      try simp only [puts, Act.put, List.setIfInBounds_toArray, List.set_cons_zero, List.set_cons_succ]
      obtain ⟨b7, rfl, hB7⟩ := g6 hL
      go_simp
      generalize hW' : World.alloc W _ = W'
      have hb : Below W.heap.size W W' := by rw [← hW']; exact bal W _
      exact hK.out _ _ _ (by simp only [puts, Act.put, List.setIfInBounds_toArray, List.set_cons_zero, List.set_cons_succ] <;> rfl) ⟨below2 hG hb, (fun h => (fun h => fun h3 => let ⟨b0, a1, a2, a3⟩ := h h3; ⟨b0, a1, a2, a3.later hb⟩) (f0.out h)), (fun h => f1.out h), (fun h => f2.out h), (fun h => (fun h => fun h9 => (h h9).later' hb) (f3.out h)), (fun h => f4.out h), (fun h => f5.out h), (fun h => (fun _ h8 => absurd h8 (by simp)) (f6.out h)), (fun _ => fun _ => ⟨W.heap.size, b7, hG.size, rfl, by rw [← hW'] ; exact Blk.newA W _ rfl, hB7.later hb⟩), (fun h => (fun h => ⟨h.1, h.2.below hb⟩) (f8.out h)), (fun h => (fun h => ⟨h.1, h.2.below hb⟩) (f9.out h))⟩
    · intro L vs W hlen hL hD hI K hK
      obtain ⟨x0, x1, x2, x3, x4, x5, x6, x7, x8, x9, rfl⟩ := len10 hlen
      have hG := hI.1
      replace hI := hI.2
      have f0 := hide hI.1
      replace hI := hI.2
      have f1 := hide hI.1
      replace hI := hI.2
      have f2 := hide hI.1
      replace hI := hI.2
      have f3 := hide hI.1
      replace hI := hI.2
      have f4 := hide hI.1
      replace hI := hI.2
      have f5 := hide hI.1
      replace hI := hI.2
      have f6 := hide hI.1
      replace hI := hI.2
      have f7 := hide hI.1
      replace hI := hI.2
      have f8 := hide hI.1
      replace hI := hI.2
      have f9 := hide hI
      clear hI
      have p0 := keep hG p0
      have p1 := keep hG p1
      have p2 := keep hG p2
      have g3 := f3.out (hD.on 3 (by kernel_rfl))
      have g7 := f7.out (hD.on 7 (by kernel_rfl))
      try simp only [puts, Act.put, List.setIfInBounds_toArray, List.set_cons_zero, List.set_cons_succ]
      obtain ⟨b8, b7, hb8, rfl, hB8, hB7⟩ := g7 hL
      refine step_app_recs3 infoRow rfl (by decide) Try.underlying24 rfl _ _ rfl w1.heap.size _ Lr rfl (g3 hL) _ _ _ [rowCells (goalF gain g) (.slice (some ⟨b7, 0, none⟩) gain.length gain.length)] rfl rfl (fun r hr => by simp at hr ; rw [hr] ; rfl) (fun u hu => rowCells_one u (by simpa using hu)) (news2 hB8) (fun e => by cases e) (by simp ; omega) (by simp ; omega) hG.size ?_
      intro v' W' hO hg
      have hb := below_own (g3 hL) hG.size hg
      exact hK.out _ _ _ (by simp only [puts, Act.put, List.setIfInBounds_toArray, List.set_cons_zero, List.set_cons_succ] <;> rfl) ⟨hG.trans hb, (fun h => (fun _ h3 => absurd (h3.symm.trans (hD.on 3 (by kernel_rfl))) (by decide)) (f0.out h)), (fun h => f1.out h), (fun h => f2.out h), (fun h => (fun _ h9 => absurd h9 (by simp)) (f3.out h)), (fun h => f4.out h), (fun h => f5.out h), (fun h => (fun _ h8 => absurd (h8.symm.trans (hD.on 7 (by kernel_rfl))) (by decide)) (f6.out h)), (fun h => (fun _ h9 => absurd h9 (by simp)) (f7.out h)), (fun _ => ⟨hD.on 3 (by kernel_rfl), goal_rows HLl.out hgl2 (HLs.out) hG (g3 hL) hB7 hO hg⟩), (fun h => (fun h => absurd (h.1.symm.trans hL) (by decide)) (f9.out h))⟩
    · intro L vs W hlen hL hD hI K hK
      obtain ⟨x0, x1, x2, x3, x4, x5, x6, x7, x8, x9, rfl⟩ := len10 hlen
      have hG := hI.1
      replace hI := hI.2
      have f0 := hide hI.1
      replace hI := hI.2
      have f1 := hide hI.1
      replace hI := hI.2
      have f2 := hide hI.1
      replace hI := hI.2
      have f3 := hide hI.1
      replace hI := hI.2
      have f4 := hide hI.1
      replace hI := hI.2
      have f5 := hide hI.1
      replace hI := hI.2
      have f6 := hide hI.1
      replace hI := hI.2
      have f7 := hide hI.1
      replace hI := hI.2
      have f8 := hide hI.1
      replace hI := hI.2
      have f9 := hide hI
      clear hI
      have p0 := keep hG p0
      have p1 := keep hG p1
      have p2 := keep hG p2
      have g8 := f8.out (hD.on 8 (by kernel_rfl))
      try simp only [puts, Act.put, List.setIfInBounds_toArray, List.set_cons_zero, List.set_cons_succ]
      try go_simp
      exact hK.out _ _ _ (by simp only [puts, Act.put, List.setIfInBounds_toArray, List.set_cons_zero, List.set_cons_succ] <;> rfl) ⟨hG, (fun h => f0.out h), (fun h => f1.out h), (fun h => f2.out h), (fun h => f3.out h), (fun h => f4.out h), (fun h => f5.out h), (fun h => f6.out h), (fun h => f7.out h), (fun h => f8.out h), (fun _ => ⟨hD.on 8 (by kernel_rfl), g8.2⟩)⟩
  intro L vs W hlen hall hI
  obtain ⟨x0, x1, x2, x3, x4, x5, x6, x7, x8, x9, rfl⟩ := len10 hlen
  have hG := hI.1
  replace hI := hI.2
  have f0 := hide hI.1
  replace hI := hI.2
  have f1 := hide hI.1
  replace hI := hI.2
  have f2 := hide hI.1
  replace hI := hI.2
  have f3 := hide hI.1
  replace hI := hI.2
  have f4 := hide hI.1
  replace hI := hI.2
  have f5 := hide hI.1
  replace hI := hI.2
  have f6 := hide hI.1
  replace hI := hI.2
  have f7 := hide hI.1
  replace hI := hI.2
  have f8 := hide hI.1
  replace hI := hI.2
  have f9 := hide hI
  clear hI
  have g0 := f0.out (hall 0 (by decide))
  obtain rfl := f1.out (hall 1 (by decide))
  obtain rfl := f2.out (hall 2 (by decide))
  have g3 := f3.out (hall 3 (by decide))
  obtain rfl := f4.out (hall 4 (by decide))
  obtain rfl := f5.out (hall 5 (by decide))
  have g6 := f6.out (hall 6 (by decide))
  have g7 := f7.out (hall 7 (by decide))
  have g8 := f8.out (hall 8 (by decide))
  have g9 := f9.out (hall 9 (by decide))
  have hal := hide hall
  clear hall f0 f1 f2 f3 f4 f5 f6 f7 f8 f9
  try simp only [puts, Act.put, List.setIfInBounds_toArray, List.set_cons_zero, List.set_cons_succ]
  have hrr := g9.2
  obtain ⟨W5, rfl⟩ : ∃ W', W' = W := ⟨_, rfl⟩
  have hbw5 := below2 hbw hG
  have HRR := hide hrr
  obtain ⟨qa, qc, rfl, -⟩ := id hrr
  replace p0 := keep hG p0
  replace p1 := keep hG p1
  replace p2 := keep hG p2
  rw [List.length_append, List.length_singleton] at HRR
  clear hrr g9 g8 g7 g6 g3 g0 hG HLl HLs HLt HL6 HLone
  rw [List.length_append, List.length_singleton]
  by_cases hwv : WV = -1
  · have q5 : (WV == -1) = true := by simpa using hwv
    have HRT : Hid (RES = true) := hide (by rw [HRES.out]; exact decide_eq_true hwv)
    clear hwv
    go_wp2_with fail
    refine (HUD.out W5).mono ?_
    rintro e w6 ⟨vv, rfl, hvv, hb6⟩
    go_wp2_with fail
    refine (HWA.out _ _ w6 (below2 hbw5 hb6) (RowsAt.below hb6 HRR.out) (hvv.keeps (keeps_frm _ _))).mono ?_
    rintro e w7 ⟨rfl, hb7⟩
    go_wp2_with fail
    go_ret
    exact ⟨ret_bool (by rw [HRT.out]), below2 (below2 hbw5 hb6) hb7⟩
  · have q5 : (WV == -1) = false := by simpa using hwv
    have HRT : Hid (RES = false) := hide (by rw [HRES.out]; exact decide_eq_false hwv)
    clear hwv
    go_wp2_with fail
    refine (HUD.out W5).mono ?_
    rintro e w6 ⟨vv, rfl, hvv, hb6⟩
    go_wp2_with fail
    refine (HWA.out _ _ w6 (below2 hbw5 hb6) (RowsAt.below hb6 HRR.out) (hvv.keeps (keeps_frm _ _))).mono ?_
    rintro e w7 ⟨rfl, hb7⟩
    go_wp2_with fail
    go_ret
    exact ⟨ret_bool (by rw [HRT.out]), below2 (below2 hbw5 hb6) hb7⟩
end Go.Proofs.Ytppfdjjhloaopaa
/- Walks of reached and Rows of the reference of package proof. Conditions: how the program and the proof lie in memory. -/
namespace Go.Proofs.Ytppfdjjhloaopaa
open Go.RowKit

theorem infoBool : (Try.prog.info? 4).map (fun i => (i.zero, i.size, i.bytes)) = some (some (.bool false), 1, 1) := by kernel_rfl
theorem madeBools (n : Nat) : madeCells #[Value.bool false] n = ((List.replicate n false).map Value.bool).toArray := by
  have h := toList_madeCells_one (.bool false) n
  rw [List.map_replicate, ← h]
theorem mkBools (n : Nat) (hn : n ≤ 1000000) (w : World) : (Instr.makeSlice 86 (.int .i64 (n : Int)) (.int .i64 (n : Int))).run Try.prog w = .ok (.slice (some ⟨w.heap.size, 0, none⟩) n n) (w.alloc (.cells ((List.replicate n false).map Value.bool).toArray 4)) := by
  rw [← madeBools]
  exact run_make_row' (P := Try.prog) 86 4 (.bool false) 1 Try.underlying86 infoBool rfl .i64 .i64 n (by omega) (by omega) w
/-- the marks with those of some numbers besides -/
def markF (bs : List Bool) (ks : List Int) : List Bool := ks.foldl (fun b k => b.set k.toNat true) bs
theorem markF_len : ∀ (ks : List Int) (bs : List Bool), (markF bs ks).length = bs.length
  | [], _ => rfl
  | k :: ks, bs => by simp only [markF, List.foldl_cons]; have := markF_len ks (bs.set k.toNat true); unfold markF at this; rw [this, List.length_set]
theorem markF_app (bs : List Bool) (ks us : List Int) : markF bs (ks ++ us) = markF (markF bs ks) us := by simp [markF, List.foldl_append]
theorem markF_get : ∀ (ks : List Int) (bs : List Bool) (i : Nat), i < bs.length → (∀ k ∈ ks, 0 ≤ k) → ((markF bs ks).getD i false = true ↔ bs.getD i false = true ∨ (i : Int) ∈ ks)
  | [], bs, i, _, _ => by simp [markF]
  | k :: ks, bs, i, hi, hk => by
    have ih := markF_get ks (bs.set k.toNat true) i (by rw [List.length_set]; exact hi) (fun x hx => hk x (by simp [hx]))
    have e : markF bs (k :: ks) = markF (bs.set k.toNat true) ks := rfl
    have hk0 := hk k (by simp)
    rw [e, ih, List.mem_cons]
    by_cases h : k.toNat = i
    · have h1 : (i : Int) = k := by omega
      rw [h, setD_eq _ hi]
      simp [h1]
    · have h1 : ¬ (i : Int) = k := by omega
      rw [setD_ne _ (fun e => h e.symm)]
      simp [h1]
/-- the places of the first k marks that are set -/
def trueF (bs : List Bool) (k : Nat) : List Int := ((List.range k).filter fun i => bs.getD i false).map fun (i : Nat) => (i : Int)
theorem trueF_succ (bs : List Bool) (k : Nat) : trueF bs (k + 1) = trueF bs k ++ (if bs.getD k false then [(k : Int)] else []) := by
  unfold trueF
  rw [List.range_succ, List.filter_append, List.map_append]
  congr 1
  cases h : bs.getD k false
  · rw [List.filter_cons_of_neg (by rw [h]; simp)]; rfl
  · rw [List.filter_cons_of_pos (by rw [h])]; rfl
theorem asc_same : ∀ (a b : List Int), a.Pairwise (· < ·) → b.Pairwise (· < ·) → (∀ x, x ∈ a ↔ x ∈ b) → a = b
  | [], [], _, _, _ => rfl
  | [], y :: b, _, _, h => by have := (h y).2 (by simp); cases this
  | x :: a, [], _, _, h => by have := (h x).1 (by simp); cases this
  | x :: a, y :: b, ha, hb, h => by
    rw [List.pairwise_cons] at ha hb
    have e : x = y := by
      have h1 := (h x).1 (by simp)
      have h2 := (h y).2 (by simp)
      rcases List.mem_cons.1 h1 with e | h1'
      · exact e
      · rcases List.mem_cons.1 h2 with e | h2'
        · exact e.symm
        · have := hb.1 x h1'; have := ha.1 y h2'; omega
    subst e
    congr 1
    refine asc_same a b ha.2 hb.2 fun z => ⟨fun hz => ?_, fun hz => ?_⟩
    · rcases List.mem_cons.1 ((h z).1 (by simp [hz])) with e | h3
      · subst e; have := ha.1 z hz; omega
      · exact h3
    · rcases List.mem_cons.1 ((h z).2 (by simp [hz])) with e | h3
      · subst e; have := hb.1 z hz; omega
      · exact h3
theorem trueF_keyed (m : Nat) (ks : List Int) (hk : ∀ k ∈ ks, 0 ≤ k ∧ k < m) : trueF (markF (List.replicate m false) ks) m = keyed ks := by
  obtain ⟨h1, h2⟩ := keyed_spec ks
  refine asc_same _ _ ?_ h1 fun x => ?_
  · unfold trueF
    refine List.pairwise_map.2 ((List.pairwise_lt_range.filter _).imp ?_)
    intro a b h; omega
  · rw [h2 x]
    unfold trueF
    simp only [List.mem_map, List.mem_filter, List.mem_range]
    constructor
    · rintro ⟨i, ⟨hi, hm⟩, rfl⟩
      have := (markF_get ks (List.replicate m false) i (by simpa using hi) (fun k h => (hk k h).1)).1 hm
      rcases this with h | h
      · simp [List.getD_eq_getElem?_getD, hi] at h
      · exact h
    · intro hx
      obtain ⟨h3, h4⟩ := hk x hx
      refine ⟨x.toNat, ⟨by omega, ?_⟩, by omega⟩
      refine (markF_get ks (List.replicate m false) x.toNat (by simp; omega) (fun k h => (hk k h).1)).2 (.inr ?_)
      rwa [show ((x.toNat : Nat) : Int) = x by omega]
/-- the rows of the leaves that are reached are rows -/
theorem reach_in (rows : List RowD) (l : List StepD) : ∀ (f a : Nat) (dec : List Int), wrongF rows l f a dec = -1 → ∀ i ∈ reachF l f a, 0 ≤ i ∧ i < rows.length
  | 0, _, _, h, _, _ => by simp [wrongF] at h
  | f + 1, a, dec, h, i, hi => by
    simp only [wrongF] at h
    simp only [reachF, Int.toNat_natCast] at hi
    generalize l.getD a st0 = s at h hi
    by_cases hv : s.var = -1
    · rw [if_pos hv] at h hi
      cases hL : leafB rows s dec
      · rw [hL] at h; simp only [Bool.false_eq_true, if_false] at h; omega
      · simp only [leafB, Bool.and_eq_true] at hL
        obtain ⟨p, hp, rfl⟩ := List.mem_map.1 hi
        obtain ⟨j, hj, rfl⟩ := List.getElem_of_mem hp
        have := okWt_parts (okWts_at' hL.1.2 hj)
        rw [List.getD_eq_getElem?_getD, List.getElem?_eq_getElem hj] at this
        exact ⟨this.1, this.2.1⟩
    · rw [if_neg hv] at h hi
      cases hP : partsB s a l.length dec
      · rw [hP] at h; simp only [Bool.false_eq_true, if_false] at h; omega
      · rw [hP, if_pos rfl] at h
        simp only [partsB, Bool.and_eq_true, decide_eq_true_eq] at hP
        obtain ⟨⟨⟨-, h4, h5⟩, h6, h7⟩, -⟩ := hP
        have r1 := wrongF_range rows l f s.no.toNat (dec.set s.var.toNat 0)
        have hx : wrongF rows l f s.no.toNat (dec.set s.var.toNat 0) = -1 ∧ wrongF rows l f s.yes.toNat (dec.set s.var.toNat 1) = -1 := by
          split at h
          · omega
          · exact ⟨by omega, h⟩
        · rcases List.mem_append.1 hi with h1 | h1
          · have := reach_in rows l f s.no.toNat _ hx.1 i
            rw [show ((s.no.toNat : Nat) : Int) = s.no by omega] at this
            exact this h1
          · have := reach_in rows l f s.yes.toNat _ hx.2 i
            rw [show ((s.yes.toNat : Nat) : Int) = s.yes by omega] at this
            exact this h1
/-- behind reached: the marks of a block, with those of the leaves that are reached -/
def ReachQ (B : Nat) (bs : List Bool) (w : World) (e : Ending) (w' : World) : Prop := e = .returned (.tuple #[]) ∧ Below B w w' ∧ Blk w' B (bs.map Value.bool) 4
set_option maxRecDepth 20000 in
set_option maxHeartbeats 4000000 in
theorem reached_any (rows : List RowD) (hrl : rows.length ≤ 1000000) (l : List StepD) (lv : Value) (w0 : World) (hl : StepsIn w0.cell? lv l) : ∀ (f a : Nat) (dec : List Int) (bs : List Bool) (w : World), a < l.length → l.length ≤ a + f → wrongF rows l f a dec = -1 →
    bs.length = rows.length → Below w0.heap.size w0 w → Blk w w0.heap.size (bs.map Value.bool) 4 →
    Calls Try.prog 44 #[lv, .int .i64 a, .slice (some ⟨w0.heap.size, 0, none⟩) rows.length rows.length] w (ReachQ w0.heap.size (markF bs (reachF l f a)) w)
  | 0, a, dec, bs, w, ha, hf, _, _, _, _ => by omega
  | f + 1, a, dec, bs, w, ha, hf, hw, hb, hbw, hB => by
    obtain ⟨la, lc, rfl, hl1, hl2, hls⟩ := id hl
    obtain ⟨lb, lo, wv, e, c0, c1, c2, c3, hwt⟩ := hls a ha
    cases e
    have hal : (a : Int) ≤ 9223372036854775807 := by omega
    have hll : (l.length : Int) ≤ 9223372036854775807 := by omega
    obtain ⟨wa, wc, rfl, hw1, hw2, hws⟩ := id hwt
    have hwl : ((l.getD a st0).wts.length : Int) ≤ 9223372036854775807 := by omega
    have c0' := keep hbw c0
    have c1' := keep hbw c1
    have c2' := keep hbw c2
    have c3' := keep hbw c3
    by_cases hv : (l.getD a st0).var = -1
    · have hok : okWts rows.length (l.getD a st0).wts (l.getD a st0).wts.length = true := by
        simp only [wrongF] at hw
        rw [if_pos hv] at hw
        cases hL : leafB rows (l.getD a st0) dec
        · rw [hL] at hw; simp only [Bool.false_eq_true, if_false] at hw; omega
        · simp only [leafB, Bool.and_eq_true] at hL; exact hL.1.2
      have HR : Hid (reachF l (f + 1) a = (l.getD a st0).wts.map (·.1)) := hide (by simp only [reachF, Int.toNat_natCast]; rw [if_pos hv])
      have HOK := hide (fun i (hi : i < (l.getD a st0).wts.length) => okWt_parts (okWts_at' hok hi))
      have HWS := hide (fun i (hi : i < (l.getD a st0).wts.length) => (let ⟨b, o, e, h, _⟩ := hws i hi; ⟨b, o, e, h⟩ : ∃ b o, wa = some ⟨b, o, none⟩ ∧ w0.cell? ⟨b, o + i * 2, none⟩ = some (.int .i64 ((l.getD a st0).wts.getD i (0, 0)).1)))
      rw [HR.out]
      rw [hv] at c0'
      clear hw hok hls c0 c1 c2 c1' c2' hwt hws hw1 hw2 hl HR hv
      generalize (l.getD a st0).wts = ws at *
      go_enter Try.func44, Try.ntmps44
      go_wp2_with fail
      go_loopw [6] (fun i wr => ∃ j : Nat, j ≤ ws.length ∧ i = .int .i64 j ∧ Below w0.heap.size w wr ∧ Blk wr w0.heap.size ((markF bs ((ws.map (·.1)).take j)).map Value.bool) 4) (fun i _ => ws.length - (intOf i).toNat)
      case atStart => exact ⟨0, by omega, rfl, Below.refl _ _, hB⟩
      case round =>
        obtain ⟨j, hj, rfl, hbr, hBr⟩ := hrel
        have hb0 := hbw.trans hbr
        have hb0c : ∀ {a : Addr} {v : Value}, w0.cell? a = some v → wr.cell? a = some v := fun h => keep hb0 h
        have s3 := hb0c c3
        by_cases hlt : j < ws.length
        · have hltd : decide (j < ws.length) = true := by simpa using hlt
          obtain ⟨b, o, rfl, u0⟩ := HWS.out j hlt
          have u1 := keep hb0 u0
          obtain ⟨h1, h2, -, -⟩ := HOK.out j hlt
          have HT : Hid ((ws.map (·.1)).take (j + 1) = (ws.map (·.1)).take j ++ [(ws.getD j wt0).1]) := hide (by
            rw [List.take_succ_eq_append_getElem (by rw [List.length_map]; exact hlt)]
            congr 2
            rw [List.getElem_map, List.getD_eq_getElem?_getD, List.getElem?_eq_getElem hlt]; rfl)
          have e0 : ws.getD j (0, 0) = ws.getD j wt0 := rfl
          rw [e0] at u1
          clear e0 u0
          generalize (ws.getD j wt0).1 = r at u1 h1 h2 HT
          obtain ⟨R, hR⟩ : ∃ R : Nat, r = R := ⟨r.toNat, by omega⟩
          subst hR
          have hRl : R < rows.length := by omega
          have hml : R < (markF bs ((ws.map (·.1)).take j)).length := by rw [markF_len, hb]; exact hRl
          have z1 : wr.cell? ⟨w0.heap.size, R, none⟩ = some (.bool ((markF bs ((ws.map (·.1)).take j)).getD R false)) := hBr.cell R (by rw [List.getElem?_map, List.getD_eq_getElem?_getD, List.getElem?_eq_getElem hml]; rfl)
          have z2 := hBr.frozen R
          have hset := hBr.set R (.bool true)
          rw [← List.map_set] at hset
          have HM : Hid (markF bs ((ws.map (·.1)).take (j + 1)) = (markF bs ((ws.map (·.1)).take j)).set R true) := hide (by rw [HT.out, markF_app]; simp [markF])
          rw [← HM.out] at hset
          have hbn := hbr.setCell (p := ⟨w0.heap.size, R, none⟩) (Nat.le_refl _) (.bool true)
          generalize (markF bs ((ws.map (·.1)).take j)).getD R false = old at z1
          clear h1 h2 hml
          go_wp2_with fail
          go_roundw
          case rel => exact ⟨j + 1, by omega, by go_num, hbn, hset⟩
          case measure => simp [intOf]; omega
        · obtain rfl : j = ws.length := by omega
          rw [List.take_of_length_le (by rw [List.length_map]; exact Nat.le_refl _)] at hBr
          go_wp2_with fail
          first | go_end0 | go_ret | skip
          exact ⟨rfl, hbr, hBr⟩
    · have q0 : ((l.getD a st0).var == -1) = false := by simpa using hv
      have HR : Hid (reachF l (f + 1) a = reachF l f (l.getD a st0).no ++ reachF l f (l.getD a st0).yes) := hide (by simp only [reachF, Int.toNat_natCast]; rw [if_neg hv])
      simp only [wrongF] at hw
      rw [if_neg hv] at hw
      cases hP : partsB (l.getD a st0) a l.length dec
      · rw [hP] at hw; simp only [Bool.false_eq_true, if_false] at hw; omega
      rw [hP, if_pos rfl] at hw
      simp only [partsB, Bool.and_eq_true, decide_eq_true_eq] at hP
      obtain ⟨⟨⟨-, h4, h5⟩, h6, h7⟩, -⟩ := hP
      have r1 := wrongF_range rows l f (l.getD a st0).no.toNat (dec.set (l.getD a st0).var.toNat 0)
      have hx : wrongF rows l f (l.getD a st0).no.toNat (dec.set (l.getD a st0).var.toNat 0) = -1 ∧ wrongF rows l f (l.getD a st0).yes.toNat (dec.set (l.getD a st0).var.toNat 1) = -1 := by
        split at hw
        · omega
        · exact ⟨by omega, hw⟩
      obtain ⟨A0, hA0⟩ : ∃ A : Nat, (l.getD a st0).no = A := ⟨(l.getD a st0).no.toNat, by omega⟩
      obtain ⟨A1, hA1⟩ : ∃ A : Nat, (l.getD a st0).yes = A := ⟨(l.getD a st0).yes.toNat, by omega⟩
      rw [hA0, hA1, Int.toNat_natCast, Int.toNat_natCast] at hx
      rw [hA0, hA1] at HR
      rw [hA0] at c1' h4 h5
      rw [hA1] at c2' h6 h7
      have HC0 := hide (fun bs w => reached_any rows hrl l (.slice (some ⟨lb, lo, none⟩) l.length lc) w0 hl f A0 _ bs w (by omega) (by omega) hx.1)
      have HC1 := hide (fun bs w => reached_any rows hrl l (.slice (some ⟨lb, lo, none⟩) l.length lc) w0 hl f A1 _ bs w (by omega) (by omega) hx.2)
      rw [HR.out, markF_app]
      have HB0 := hide hb
      generalize reachF l f A0 = K0 at HC0 ⊢
      generalize reachF l f A1 = K1 at HC1 ⊢
      have c1w := hide c1
      have c2w : w0.cell? ⟨lb, lo + a * 4 + 2, none⟩ = some (.int .i64 A1) := by rw [← hA1]; exact c2
      have HC2 := hide c2w
      clear hw hx r1 h4 h5 h6 h7 hls c0 c1 c2 c3 c3' hwt hws hw1 hw2 hl HR hA0 hA1 c1w c2w hv hwl
      generalize (l.getD a st0).var = va at c0' q0
      go_enter Try.func44, Try.ntmps44
      go_wp2_with fail
      refine (HC0.out bs w HB0.out hbw hB).mono ?_
      rintro e w1 ⟨rfl, hb1, hB1⟩
      have hb01 := hbw.trans hb1
      have c2'' := keep hb01 HC2.out
      clear c0' c1' c2'
      go_wp2_with fail
      refine (HC1.out (markF bs K0) w1 (by rw [markF_len]; exact HB0.out) hb01 hB1).mono ?_
      rintro e w2 ⟨rfl, hb2, hB2⟩
      go_wp2_with fail
      first | go_end0 | go_ret | skip
      exact ⟨rfl, hb1.trans hb2, hB2⟩
set_option maxRecDepth 20000 in
set_option maxHeartbeats 4000000 in
theorem rowsR_any (p : ProgD) (rv gv : Value) (l : List StepD) (sv : Value) (w : World) (hr : RowsAt w rv p.rows) (hg : IntsAt w gv p.gain) (hs : StepsIn w.cell? sv l) :
    Calls Try.prog 23 #[progV p rv gv, sv] w (RetM (fun c v => IntsIn c v (usedP p l)) w) := by
  obtain ⟨n, rows, gain⟩ := p
  obtain ⟨sa, sc, rfl, hs1, hs2, -⟩ := id hs
  obtain ⟨ra, rc, rfl, hr1, hr2, -⟩ := id hr
  obtain ⟨ga, gc, rfl, hg1, hg2, -⟩ := id hg
  have hsl : (l.length : Int) ≤ 9223372036854775807 := by omega
  have HRA := hide (fun W (h : Below w.heap.size w W) => refutesR_any ⟨n, rows, gain⟩ _ _ l _ W (hr.below h) (hg.below h) (hs.keeps (keeps_of_below h)))
  have HRB : Hid (refB ⟨n, rows, gain⟩ l = decide (wrongP ⟨n, rows, gain⟩ l = -1)) := hide rfl
  have HUS : Hid (usedP ⟨n, rows, gain⟩ l = if wrongP ⟨n, rows, gain⟩ l = -1 then keyed (reachF l l.length 0) else []) := hide rfl
  have HCP := hide (fun h : wrongP ⟨n, rows, gain⟩ l = -1 => check_parts h)
  have HWF : Hid (wrongP ⟨n, rows, gain⟩ l = if validB ⟨n, rows, gain⟩ && decide (l.length ≤ 8192) then (if l.length = 0 then 0 else wrongF rows l l.length 0 (List.replicate n.toNat (-1))) else -2) := hide rfl
  have HS := hide hs
  generalize usedP ⟨n, rows, gain⟩ l = US at HUS ⊢
  generalize refB ⟨n, rows, gain⟩ l = RB at HRA HRB
  clear hr hg hs hr1 hr2 hg1 hg2 hs1 hs2
  go_enter Try.func23, Try.ntmps23
  go_wp2_with fail
  generalize hX1 : World.alloc w _ = X1
  have zX1 : X1.heap.size = w.heap.size + 1 := by rw [← hX1]; simp
  have bX1 : Below w.heap.size w X1 := by rw [← hX1]; exact bal w _
  have bP : Blk X1 (w.heap.size) [.int .i64 n, .slice ra rows.length rc, .slice ga gain.length gc] 27 := by rw [← hX1]; exact Blk.newA w _ (by first | rfl | simp)
  have Xb := bX1
  have Xz := zX1
  clear hX1 zX1 bX1
  have p0 := bP.cell 0 rfl
  have p1 := bP.cell 1 rfl
  have p2 := bP.cell 2 rfl
  go_wp2_with fail
  refine (HRA.out _ Xb).mono ?_
  rintro e w1 ⟨rfl, hb1⟩
  have hbw := below2 Xb hb1
  by_cases hwv : wrongP ⟨n, rows, gain⟩ l = -1
  · obtain rfl : RB = true := by rw [HRB.out]; exact decide_eq_true hwv
    have HU1 : Hid (US = keyed (reachF l l.length 0)) := hide (by rw [HUS.out, if_pos hwv])
    obtain ⟨hV, hl8, hl0⟩ := HCP.out hwv
    have hwf : wrongF rows l l.length 0 (List.replicate n.toNat (-1)) = -1 := by
      have h1 := HWF.out
      rw [hwv, hV, Bool.true_and, decide_eq_true hl8, if_pos rfl, if_neg (by omega)] at h1
      exact h1.symm
    have hrl : rows.length ≤ 300 := (valid_parts hV).2.2.1
    have HTK := hide (trueF_keyed rows.length (reachF l l.length 0) (reach_in rows l l.length 0 _ hwf))
    have hs1 := HS.out.keeps (keeps_of_below hbw)
    have hmk := mkBools rows.length (by omega)
    have HRE := hide (fun bs W => reached_any rows (by omega) l (.slice sa l.length sc) w1 hs1 l.length 0 _ bs W hl0 (by omega) hwf)
    have p1' := keep hb1 p1
    have hrlI : (rows.length : Int) ≤ 9223372036854775807 := by omega
    generalize reachF l l.length 0 = RF at HU1 HTK HRE
    clear HRA HUS HCP HWF HS hwv hV hl8 hl0 hwf hs1 p0 p1 p2 HRB
    go_wp2_with fail
    generalize hWB : World.alloc w1 _ = WB
    have hbB : Below w1.heap.size w1 WB := by rw [← hWB]; exact bal w1 _
    have bB : Blk WB w1.heap.size ((List.replicate rows.length false).map Value.bool) 4 := by rw [← hWB]; exact Blk.newA w1 _ (by simp)
    clear hWB hmk
    refine (HRE.out _ WB (by simp) hbB bB).mono ?_
    rintro e w3 ⟨rfl, hb3, hB3⟩
    have hb13 := hbB.trans hb3
    have hz3 : w1.heap.size + 1 ≤ w3.heap.size := hB3.lt
    have HML : Hid ((markF (List.replicate rows.length false) RF).length = rows.length) := hide (by rw [markF_len, List.length_replicate])
    generalize markF (List.replicate rows.length false) RF = bsF at HTK HML hB3
    clear bB hbB hb3 HRE p1'
    go_wp2_with fail
    go_loopw [6, 7] (fun v i wr => ∃ k : Nat, k ≤ rows.length ∧ i = .int .i64 k ∧ OwnI wr (w1.heap.size + 1) v (trueF bsF k) ∧ Blk wr w1.heap.size (bsF.map Value.bool) 4 ∧ Below w1.heap.size w1 wr ∧ w1.heap.size + 1 ≤ wr.heap.size) (fun _ i _ => rows.length - (intOf i).toNat)
    case atStart => exact ⟨0, by omega, rfl, OwnI.nil _ _, hB3, hb13, hz3⟩
    case round =>
      obtain ⟨k, hk, rfl, hO, hBr, hbr, hzr⟩ := hrel
      by_cases hkl : k < rows.length
      · have hkd : decide (k < rows.length) = true := by simpa using hkl
        have hkm : k < bsF.length := by rw [HML.out]; exact hkl
        have z1 : wr.cell? ⟨w1.heap.size, k, none⟩ = some (.bool (bsF.getD k false)) := hBr.cell k (by rw [List.getElem?_map, List.getD_eq_getElem?_getD, List.getElem?_eq_getElem hkm]; rfl)
        have HT := hide (trueF_succ bsF k)
        have hlen : (trueF bsF k).length < 1000000 := by
          have : (trueF bsF k).length ≤ k := by unfold trueF; rw [List.length_map]; exact Nat.le_trans (List.length_filter_le _ _) (by simp)
          omega
        generalize bsF.getD k false = bit at z1 HT
        generalize trueF bsF k = TK at hO HT hlen
        obtain ⟨va, vc, rfl⟩ := hO.form
        cases bit
        · go_wp2_with fail
          go_roundw
          case rel => exact ⟨k + 1, by omega, by go_num, by rw [HT.out]; simpa using hO, hBr, hbr, hzr⟩
          case measure => simp [intOf]; omega
        · go_wp2_with (at_builtin; refine app_int rfl _ _ rfl (w1.heap.size + 1) _ TK rfl hO k rfl hlen hzr ?_; intro v5 w5 hO5 hb5 hz5)
          go_roundw
          case rel => exact ⟨k + 1, by omega, by go_num, by rw [HT.out]; simpa using hO5, hBr.below hb5 (by omega), hbr.trans (hb5.mono (by omega)), by omega⟩
          case measure => simp [intOf]; omega
      · obtain rfl : k = rows.length := by omega
        have hfin := below2 hbw hbr
        have HI := hide (OwnI.intsF (B' := w.heap.size) hO (Nat.le_succ_of_le hbw.size))
        rw [HTK.out, ← HU1.out] at HI
        obtain ⟨va, vc, rfl⟩ := hO.form
        go_wp2_with fail
        go_ret
        exact ⟨_, rfl, HI.out, hfin⟩
  · obtain rfl : RB = false := by rw [HRB.out]; exact decide_eq_false hwv
    have HU1 : Hid (US = []) := hide (by rw [HUS.out, if_neg hwv])
    go_wp2_with fail
    go_ret
    exact ⟨_, rfl, by rw [HU1.out]; exact IntsIn.nil _, hbw⟩
end Go.Proofs.Ytppfdjjhloaopaa
/- The walk of Without of the reference. Conditions: how the arguments lie in memory; sizes. -/
namespace Go.Proofs.Ytppfdjjhloaopaa
open Go.RowKit

/-- what an append to a slice of the call's own, and a box that is written, leave as they were -/
structure EffY (B : Nat) (e : TypeId) (O : Nat) (w w' : World) : Prop where
  os : w'.os = w.os
  tape : w'.tape = w.tape
  output : w'.output = w.output
  size : w.heap.size ≤ w'.heap.size
  block : ∀ b, b < w.heap.size → b ≠ O → (b < B ∨ NotE e w b) → w'.heap[b]? = w.heap[b]?
theorem effE_of_grown {W w' : World} {B : Nat} {e : TypeId} {k : Nat} {v : Value} {L : List (List Value)} (hown : OwnR W B e k v L) (hg : W.grownBy w' v.ownBlock) : EffE B e W w' := by
  refine ⟨hg.os, hg.tape, hg.output, hg.size, fun b hb hn => hg.block b hb ?_⟩
  intro he
  rcases hown.form with ⟨h2, -⟩ | ⟨g', c', cur, h2, h3, h4, -⟩
  · rw [h2] at he; cases he
  · rw [h2] at he; cases he
    rcases hn with hn | hn
    · have hn' : g' < B := hn
      omega
    · exact hn _ _ h4
theorem EffE.toY {B : Nat} {e : TypeId} {O j : Nat} {w w' : World} (h : EffE B e w w') (u : Value) : EffY B e O w (w'.setCell ⟨O, j, none⟩ u) :=
  ⟨h.os, h.tape, h.output, by simpa [World.setCell] using h.size, fun b hb hO hn => (Below.heap_setCell w' ⟨O, j, none⟩ u b hO).trans (h.block b hb hn)⟩
theorem EffY.below {B : Nat} {e : TypeId} {O C : Nat} {w w' : World} (h : EffY B e O w w') (hB : C ≤ B) (hO : C ≤ O) (hw : C ≤ w.heap.size) : Below C w w' :=
  ⟨h.os, h.tape, h.output, h.size, fun k hk => h.block k (by omega) (by omega) (.inl (by omega))⟩
theorem EffY.blk {B : Nat} {e : TypeId} {O : Nat} {w w' : World} (h : EffY B e O w w') {b : Nat} {vs : List Value} {t : TypeId} (hb : Blk w b vs t) (hO : b ≠ O) (hte : t ≠ e) : Blk w' b vs t :=
  (h.block b hb.lt hO (.inr (hb.notE hte))).trans hb
theorem OwnR.setO {W : World} {B O j : Nat} {e : TypeId} {k : Nat} {v : Value} {L : List (List Value)} {vs : List Value} {t : TypeId} (h : OwnR W B e k v L) (hO : Blk W O vs t) (hte : t ≠ e) (u : Value) : OwnR (W.setCell ⟨O, j, none⟩ u) B e k v L := by
  obtain ⟨⟨h1, h2⟩, h3⟩ := h
  refine ⟨⟨h1, h2.imp id ?_⟩, h3⟩
  rintro ⟨g, cap, cur, e1, e2, e3, e4⟩
  refine ⟨g, cap, cur, e1, e2, ?_, e4⟩
  refine (Below.heap_setCell W ⟨O, j, none⟩ u g ?_).trans e3
  show g ≠ O
  rintro rfl
  have := (show W.heap[g]? = _ from hO).symm.trans e3
  simp at this; exact hte this.2
def RowsLow (w0 : World) (Lr : List (List Value)) (l : List RowD) : Prop := Lr.length = l.length ∧ ∀ i, i < l.length → ∃ cv, Lr.getD i [] = rowCells (l.getD i row0) cv ∧ IntsAt w0 cv (l.getD i row0).coef
theorem RowsLow.app {w0 : World} {Lr : List (List Value)} {l : List RowD} (h : RowsLow w0 Lr l) {x : RowD} {cv : Value} (hc : IntsAt w0 cv x.coef) : RowsLow w0 (Lr ++ [rowCells x cv]) (l ++ [x]) := by
  refine ⟨by simp [h.1], fun i hi => ?_⟩
  rcases Nat.lt_or_ge i l.length with h1 | h1
  · obtain ⟨cv', e, hc'⟩ := h.2 i h1
    rw [getD_app_left _ _ _ _ (by rw [h.1]; exact h1), getD_app_left _ _ _ _ h1]; exact ⟨cv', e, hc'⟩
  · have hi' : i = l.length := by simp at hi; omega
    subst hi'
    rw [getD_app_right _ _ _ _ (by rw [h.1]; exact Nat.le_refl _), getD_app_right _ _ _ _ (Nat.le_refl _), h.1, Nat.sub_self]
    exact ⟨cv, rfl, hc⟩
theorem RowsLow.rows {w0 W : World} {B : Nat} {v : Value} {Lr : List (List Value)} {l : List RowD} (h : RowsLow w0 Lr l) (hO : OwnR W B 67 6 v Lr) (hb : Below w0.heap.size w0 W) : RowsAt W v l :=
  OwnR.rows hO h.1 fun i hi => let ⟨cv, e, hc⟩ := h.2 i hi; ⟨cv, e, IntsAt.below hb hc⟩
theorem own_some {W : World} {B : Nat} {e : TypeId} {k : Nat} {v : Value} {L : List (List Value)} {x : List Value} (h : OwnR W B e k v (L ++ [x])) : ∃ g c, v = .slice (some ⟨g, 0, none⟩) (L.length + 1) c := by
  rcases h.form with ⟨-, h2⟩ | ⟨g, c, cur, h1, -⟩
  · simp at h2
  · exact ⟨g, c, by rw [h1]; simp⟩
/-- a call returns a program, which may share memory with what was there -/
def ProgQ (p : ProgD) (er : Int) (w : World) (e : Ending) (w' : World) : Prop :=
  ∃ rv gv, e = .returned (.tuple #[progV p rv gv, .int .i64 er]) ∧ RowsAt w' rv p.rows ∧ IntsAt w' gv p.gain ∧ Below w.heap.size w w'
end Go.Proofs.Ytppfdjjhloaopaa
namespace Go.Proofs.Ytppfdjjhloaopaa
open Go.RowKit

/-- a row with at most 12 numbers -/
def cutS (r : RowD) : RowD := ⟨r.kind, r.a, r.b, r.at_, r.coef.take 12, r.most⟩
/-- the first k rows, with at most 12 numbers each -/
def cutUq (l : List RowD) (k : Nat) : List RowD := (l.take k).map cutS
theorem cutUq_succ {l : List RowD} {k : Nat} (h : k < l.length) : cutUq l (k + 1) = cutUq l k ++ [cutS (l.getD k row0)] := by
  unfold cutUq; rw [take_succ' l k row0 h, List.map_append]; rfl
theorem cutUq_len {l : List RowD} {k : Nat} (h : k ≤ l.length) : (cutUq l k).length = k := by
  unfold cutUq; rw [List.length_map, List.length_take]; omega
def someF (p : ProgD) : ProgD := ⟨p.vars, cutUq p.rows (min p.rows.length 20), p.gain.take 12⟩
theorem take_min12 {α : Type} (l : List α) (m : Nat) : l.take (min l.length m) = l.take m := by
  rcases Nat.le_total l.length m with h | h
  · rw [Nat.min_eq_left h, List.take_length, List.take_of_length_le h]
  · rw [Nat.min_eq_right h]
/-- a call returns a program, which may share memory with what was there -/
def ProgQ1 (p : ProgD) (w : World) (e : Ending) (w' : World) : Prop :=
  ∃ rv gv, e = .returned (progV p rv gv) ∧ RowsAt w' rv p.rows ∧ IntsAt w' gv p.gain ∧ Below w.heap.size w w'
set_option maxRecDepth 100000 in
set_option maxHeartbeats 4000000 in
theorem some_any (p : ProgD) (rv gv : Value) (w : World) (hr : RowsAt w rv p.rows) (hg : IntsAt w gv p.gain) :
    Calls Try.prog 13 #[progV p rv gv] w (ProgQ1 (someF p) w) := by
  have HG0 := hg
  obtain ⟨ra, rc, rfl, hrl, hrm, hrc⟩ := id hr
  obtain ⟨ga, gc, rfl, hgl, hgm, -⟩ := id hg
  have hm1 : (p.rows.length : Int) ≤ 9223372036854775807 := by omega
  have hm2 : (p.gain.length : Int) ≤ 9223372036854775807 := by omega
  have HRC := hide hrc
  have HFF : Hid (someF p = ⟨p.vars, cutUq p.rows (min p.rows.length 20), p.gain.take 12⟩) := hide rfl
  obtain ⟨gm, hgm'⟩ : ∃ gm, gm = min p.gain.length 12 := ⟨_, rfl⟩
  have HGT : Hid (p.gain.take 12 = p.gain.take gm) := hide (by rw [hgm', take_min12])
  have hmin : (if (12 : Int) < (p.gain.length : Int) then (12 : Int) else (p.gain.length : Int)) = (gm : Int) := by split <;> omega
  have hmin2 : min (p.gain.length : Int) 12 = (gm : Int) := by omega
  have hgl1 : gm ≤ p.gain.length := by omega
  have hgl2 : gm ≤ gc := by omega
  have HGI := hide (ints_take HG0 hgl1)
  clear hr hg hrc hgm'
  go_enter Try.func13, Try.ntmps13
  go_wp2_with fail
  generalize hX1 : World.alloc w _ = X1
  have zX1 : X1.heap.size = w.heap.size + 1 := by rw [← hX1]; simp
  have bX1 : Below w.heap.size w X1 := by rw [← hX1]; exact bal w _
  have bP_1 : Blk X1 (w.heap.size) [.int .i64 p.vars, .slice ra p.rows.length rc, .slice ga p.gain.length gc] 27 := by rw [← hX1]; exact Blk.newA w _ (by first | rfl | simp)
  generalize hX2 : World.alloc X1 _ = X2
  have zX2 : X2.heap.size = w.heap.size + 1 + 1 := by rw [← hX2]; simp [zX1]
  have bX2 : Below X1.heap.size X1 X2 := by rw [← hX2]; exact bal X1 _
  have bR : Blk X2 (w.heap.size + 1) [.int .i64 0, .slice none 0 0, .slice none 0 0] 27 := by rw [← hX2, ← zX1]; exact Blk.newA X1 _ (by first | rfl | simp)
  have bP := bP_1.later bX2
  have Xb := below2 (bX1) bX2
  have Xz := zX2
  clear hX1 zX1 bX1 hX2 zX2 bX2 bP_1
  have p0 := bP.cell 0 rfl
  have p2 := bP.cell 2 rfl
  refine wp_region_inv [some 6, some 7, some 8, some 9, some 10, some 11, some 12, some 13, some 14, some 15, some 3, none] (fun L vs W => match vs with | [x0, x1, x2, x3, x4, x5, x6, x7, x8, x9, x10, x11] => (Below X2.heap.size X2 W) ∧ (L 0 = true → x0 = .pointer (some ⟨w.heap.size, 0, none⟩)) ∧ (L 1 = true → x1 = .int .i64 p.vars) ∧ (L 2 = true → x2 = .pointer (some ⟨w.heap.size, 2, none⟩)) ∧ (L 3 = true → x3 = .slice ga p.gain.length gc) ∧ (L 4 = true → x4 = .pointer (some ⟨w.heap.size, 2, none⟩)) ∧ (L 5 = true → x5 = .slice ga p.gain.length gc) ∧ (L 6 = true → x6 = .int .i64 p.gain.length) ∧ (L 7 = true → x7 = .int .i64 gm) ∧ (L 8 = true → x8 = .slice ga gm gc) ∧ (L 9 = true → x9 = .agg #[.int .i64 p.vars, .slice none 0 0, .slice ga gm gc]) ∧ (L 10 = true → L 11 = false → ∃ R : Nat, X2.heap.size ≤ R ∧ x10 = .pointer (some ⟨R, 0, none⟩) ∧ Blk W R [.int .i64 0, .slice none 0 0, .slice none 0 0] 27) ∧ (L 11 = true → L 10 = true ∧ ∃ R : Nat, X2.heap.size ≤ R ∧ x10 = .pointer (some ⟨R, 0, none⟩) ∧ Blk W R [.int .i64 p.vars, .slice none 0 0, .slice ga gm gc] 27) | _ => False) [_, _, _, _, _, _, _, _, _, _, _, undef] (by kernel_rfl) (by kernel_rfl) rfl (by simp only [puts, Act.put, List.setIfInBounds_toArray, List.set_cons_zero, List.set_cons_succ] <;> rfl) ?_ ?_ ?_
  · exact ⟨(Below.refl _ _).drew, (fun h => by cases h), (fun h => by cases h), (fun h => by cases h), (fun h => by cases h), (fun h => by cases h), (fun h => by cases h), (fun h => by cases h), (fun h => by cases h), (fun h => by cases h), (fun h => by cases h), (fun h => by cases h), (fun h => by cases h)⟩
  · refine ⟨?_, ?_, ?_, ?_, ?_, ?_, ?_, ?_, ?_, ?_, ?_, ?_, trivial⟩
    · intro L vs W hlen hL hD hI K hK
      obtain ⟨x0, x1, x2, x3, x4, x5, x6, x7, x8, x9, x10, x11, rfl⟩ := len12 hlen
      have hG := hI.1
      replace hI := hI.2
      have f0 := hide hI.1
      replace hI := hI.2
      have f1 := hide hI.1
      replace hI := hI.2
      have f2 := hide hI.1
      replace hI := hI.2
      have f3 := hide hI.1
      replace hI := hI.2
      have f4 := hide hI.1
      replace hI := hI.2
      have f5 := hide hI.1
      replace hI := hI.2
      have f6 := hide hI.1
      replace hI := hI.2
      have f7 := hide hI.1
      replace hI := hI.2
      have f8 := hide hI.1
      replace hI := hI.2
      have f9 := hide hI.1
      replace hI := hI.2
      have f10 := hide hI.1
      replace hI := hI.2
      have f11 := hide hI
      clear hI
      have p0 := keep hG p0
      have p2 := keep hG p2
      try simp only [puts, Act.put, List.setIfInBounds_toArray, List.set_cons_zero, List.set_cons_succ]
      try go_simp
      exact hK.out _ _ _ (by simp only [puts, Act.put, List.setIfInBounds_toArray, List.set_cons_zero, List.set_cons_succ] <;> rfl) ⟨hG, (fun _ => rfl), (fun h => f1.out h), (fun h => f2.out h), (fun h => f3.out h), (fun h => f4.out h), (fun h => f5.out h), (fun h => f6.out h), (fun h => f7.out h), (fun h => f8.out h), (fun h => f9.out h), (fun h => f10.out h), (fun h => f11.out h)⟩
    · intro L vs W hlen hL hD hI K hK
      obtain ⟨x0, x1, x2, x3, x4, x5, x6, x7, x8, x9, x10, x11, rfl⟩ := len12 hlen
      have hG := hI.1
      replace hI := hI.2
      have f0 := hide hI.1
      replace hI := hI.2
      have f1 := hide hI.1
      replace hI := hI.2
      have f2 := hide hI.1
      replace hI := hI.2
      have f3 := hide hI.1
      replace hI := hI.2
      have f4 := hide hI.1
      replace hI := hI.2
      have f5 := hide hI.1
      replace hI := hI.2
      have f6 := hide hI.1
      replace hI := hI.2
      have f7 := hide hI.1
      replace hI := hI.2
      have f8 := hide hI.1
      replace hI := hI.2
      have f9 := hide hI.1
      replace hI := hI.2
      have f10 := hide hI.1
      replace hI := hI.2
      have f11 := hide hI
      clear hI
      have p0 := keep hG p0
      have p2 := keep hG p2
      obtain rfl := f0.out (hD.on 0 (by kernel_rfl))
      try simp only [puts, Act.put, List.setIfInBounds_toArray, List.set_cons_zero, List.set_cons_succ]
      try go_simp
      exact hK.out _ _ _ (by simp only [puts, Act.put, List.setIfInBounds_toArray, List.set_cons_zero, List.set_cons_succ] <;> rfl) ⟨hG, (fun h => f0.out h), (fun _ => rfl), (fun h => f2.out h), (fun h => f3.out h), (fun h => f4.out h), (fun h => f5.out h), (fun h => f6.out h), (fun h => f7.out h), (fun h => f8.out h), (fun h => f9.out h), (fun h => f10.out h), (fun h => f11.out h)⟩
    · intro L vs W hlen hL hD hI K hK
      obtain ⟨x0, x1, x2, x3, x4, x5, x6, x7, x8, x9, x10, x11, rfl⟩ := len12 hlen
      have hG := hI.1
      replace hI := hI.2
      have f0 := hide hI.1
      replace hI := hI.2
      have f1 := hide hI.1
      replace hI := hI.2
      have f2 := hide hI.1
      replace hI := hI.2
      have f3 := hide hI.1
      replace hI := hI.2
      have f4 := hide hI.1
      replace hI := hI.2
      have f5 := hide hI.1
      replace hI := hI.2
      have f6 := hide hI.1
      replace hI := hI.2
      have f7 := hide hI.1
      replace hI := hI.2
      have f8 := hide hI.1
      replace hI := hI.2
      have f9 := hide hI.1
      replace hI := hI.2
      have f10 := hide hI.1
      replace hI := hI.2
      have f11 := hide hI
      clear hI
      have p0 := keep hG p0
      have p2 := keep hG p2
      try simp only [puts, Act.put, List.setIfInBounds_toArray, List.set_cons_zero, List.set_cons_succ]
      try go_simp
      exact hK.out _ _ _ (by simp only [puts, Act.put, List.setIfInBounds_toArray, List.set_cons_zero, List.set_cons_succ] <;> rfl) ⟨hG, (fun h => f0.out h), (fun h => f1.out h), (fun _ => rfl), (fun h => f3.out h), (fun h => f4.out h), (fun h => f5.out h), (fun h => f6.out h), (fun h => f7.out h), (fun h => f8.out h), (fun h => f9.out h), (fun h => f10.out h), (fun h => f11.out h)⟩
    · intro L vs W hlen hL hD hI K hK
      obtain ⟨x0, x1, x2, x3, x4, x5, x6, x7, x8, x9, x10, x11, rfl⟩ := len12 hlen
      have hG := hI.1
      replace hI := hI.2
      have f0 := hide hI.1
      replace hI := hI.2
      have f1 := hide hI.1
      replace hI := hI.2
      have f2 := hide hI.1
      replace hI := hI.2
      have f3 := hide hI.1
      replace hI := hI.2
      have f4 := hide hI.1
      replace hI := hI.2
      have f5 := hide hI.1
      replace hI := hI.2
      have f6 := hide hI.1
      replace hI := hI.2
      have f7 := hide hI.1
      replace hI := hI.2
      have f8 := hide hI.1
      replace hI := hI.2
      have f9 := hide hI.1
      replace hI := hI.2
      have f10 := hide hI.1
      replace hI := hI.2
      have f11 := hide hI
      clear hI
      have p0 := keep hG p0
      have p2 := keep hG p2
      obtain rfl := f2.out (hD.on 2 (by kernel_rfl))
      try simp only [puts, Act.put, List.setIfInBounds_toArray, List.set_cons_zero, List.set_cons_succ]
      try go_simp
      exact hK.out _ _ _ (by simp only [puts, Act.put, List.setIfInBounds_toArray, List.set_cons_zero, List.set_cons_succ] <;> rfl) ⟨hG, (fun h => f0.out h), (fun h => f1.out h), (fun h => f2.out h), (fun _ => rfl), (fun h => f4.out h), (fun h => f5.out h), (fun h => f6.out h), (fun h => f7.out h), (fun h => f8.out h), (fun h => f9.out h), (fun h => f10.out h), (fun h => f11.out h)⟩
    · intro L vs W hlen hL hD hI K hK
      obtain ⟨x0, x1, x2, x3, x4, x5, x6, x7, x8, x9, x10, x11, rfl⟩ := len12 hlen
      have hG := hI.1
      replace hI := hI.2
      have f0 := hide hI.1
      replace hI := hI.2
      have f1 := hide hI.1
      replace hI := hI.2
      have f2 := hide hI.1
      replace hI := hI.2
      have f3 := hide hI.1
      replace hI := hI.2
      have f4 := hide hI.1
      replace hI := hI.2
      have f5 := hide hI.1
      replace hI := hI.2
      have f6 := hide hI.1
      replace hI := hI.2
      have f7 := hide hI.1
      replace hI := hI.2
      have f8 := hide hI.1
      replace hI := hI.2
      have f9 := hide hI.1
      replace hI := hI.2
      have f10 := hide hI.1
      replace hI := hI.2
      have f11 := hide hI
      clear hI
      have p0 := keep hG p0
      have p2 := keep hG p2
      try simp only [puts, Act.put, List.setIfInBounds_toArray, List.set_cons_zero, List.set_cons_succ]
      try go_simp
      exact hK.out _ _ _ (by simp only [puts, Act.put, List.setIfInBounds_toArray, List.set_cons_zero, List.set_cons_succ] <;> rfl) ⟨hG, (fun h => f0.out h), (fun h => f1.out h), (fun h => f2.out h), (fun h => f3.out h), (fun _ => rfl), (fun h => f5.out h), (fun h => f6.out h), (fun h => f7.out h), (fun h => f8.out h), (fun h => f9.out h), (fun h => f10.out h), (fun h => f11.out h)⟩
    · intro L vs W hlen hL hD hI K hK
      obtain ⟨x0, x1, x2, x3, x4, x5, x6, x7, x8, x9, x10, x11, rfl⟩ := len12 hlen
      have hG := hI.1
      replace hI := hI.2
      have f0 := hide hI.1
      replace hI := hI.2
      have f1 := hide hI.1
      replace hI := hI.2
      have f2 := hide hI.1
      replace hI := hI.2
      have f3 := hide hI.1
      replace hI := hI.2
      have f4 := hide hI.1
      replace hI := hI.2
      have f5 := hide hI.1
      replace hI := hI.2
      have f6 := hide hI.1
      replace hI := hI.2
      have f7 := hide hI.1
      replace hI := hI.2
      have f8 := hide hI.1
      replace hI := hI.2
      have f9 := hide hI.1
      replace hI := hI.2
      have f10 := hide hI.1
      replace hI := hI.2
      have f11 := hide hI
      clear hI
      have p0 := keep hG p0
      have p2 := keep hG p2
      obtain rfl := f4.out (hD.on 4 (by kernel_rfl))
      try simp only [puts, Act.put, List.setIfInBounds_toArray, List.set_cons_zero, List.set_cons_succ]
      try go_simp
      exact hK.out _ _ _ (by simp only [puts, Act.put, List.setIfInBounds_toArray, List.set_cons_zero, List.set_cons_succ] <;> rfl) ⟨hG, (fun h => f0.out h), (fun h => f1.out h), (fun h => f2.out h), (fun h => f3.out h), (fun h => f4.out h), (fun _ => rfl), (fun h => f6.out h), (fun h => f7.out h), (fun h => f8.out h), (fun h => f9.out h), (fun h => f10.out h), (fun h => f11.out h)⟩
    · intro L vs W hlen hL hD hI K hK
      obtain ⟨x0, x1, x2, x3, x4, x5, x6, x7, x8, x9, x10, x11, rfl⟩ := len12 hlen
      have hG := hI.1
      replace hI := hI.2
      have f0 := hide hI.1
      replace hI := hI.2
      have f1 := hide hI.1
      replace hI := hI.2
      have f2 := hide hI.1
      replace hI := hI.2
      have f3 := hide hI.1
      replace hI := hI.2
      have f4 := hide hI.1
      replace hI := hI.2
      have f5 := hide hI.1
      replace hI := hI.2
      have f6 := hide hI.1
      replace hI := hI.2
      have f7 := hide hI.1
      replace hI := hI.2
      have f8 := hide hI.1
      replace hI := hI.2
      have f9 := hide hI.1
      replace hI := hI.2
      have f10 := hide hI.1
      replace hI := hI.2
      have f11 := hide hI
      clear hI
      have p0 := keep hG p0
      have p2 := keep hG p2
      obtain rfl := f5.out (hD.on 5 (by kernel_rfl))
      try simp only [puts, Act.put, List.setIfInBounds_toArray, List.set_cons_zero, List.set_cons_succ]
      try go_simp
      exact hK.out _ _ _ (by simp only [puts, Act.put, List.setIfInBounds_toArray, List.set_cons_zero, List.set_cons_succ] <;> rfl) ⟨hG, (fun h => f0.out h), (fun h => f1.out h), (fun h => f2.out h), (fun h => f3.out h), (fun h => f4.out h), (fun h => f5.out h), (fun _ => rfl), (fun h => f7.out h), (fun h => f8.out h), (fun h => f9.out h), (fun h => f10.out h), (fun h => f11.out h)⟩
    · intro L vs W hlen hL hD hI K hK
      obtain ⟨x0, x1, x2, x3, x4, x5, x6, x7, x8, x9, x10, x11, rfl⟩ := len12 hlen
      have hG := hI.1
      replace hI := hI.2
      have f0 := hide hI.1
      replace hI := hI.2
      have f1 := hide hI.1
      replace hI := hI.2
      have f2 := hide hI.1
      replace hI := hI.2
      have f3 := hide hI.1
      replace hI := hI.2
      have f4 := hide hI.1
      replace hI := hI.2
      have f5 := hide hI.1
      replace hI := hI.2
      have f6 := hide hI.1
      replace hI := hI.2
      have f7 := hide hI.1
      replace hI := hI.2
      have f8 := hide hI.1
      replace hI := hI.2
      have f9 := hide hI.1
      replace hI := hI.2
      have f10 := hide hI.1
      replace hI := hI.2
      have f11 := hide hI
      clear hI
      have p0 := keep hG p0
      have p2 := keep hG p2
      obtain rfl := f6.out (hD.on 6 (by kernel_rfl))
      try simp only [puts, Act.put, List.setIfInBounds_toArray, List.set_cons_zero, List.set_cons_succ]
      try go_simp
      exact hK.out _ _ _ (by simp only [puts, Act.put, List.setIfInBounds_toArray, List.set_cons_zero, List.set_cons_succ] <;> rfl) ⟨hG, (fun h => f0.out h), (fun h => f1.out h), (fun h => f2.out h), (fun h => f3.out h), (fun h => f4.out h), (fun h => f5.out h), (fun h => f6.out h), (fun _ => rfl), (fun h => f8.out h), (fun h => f9.out h), (fun h => f10.out h), (fun h => f11.out h)⟩
    · intro L vs W hlen hL hD hI K hK
      obtain ⟨x0, x1, x2, x3, x4, x5, x6, x7, x8, x9, x10, x11, rfl⟩ := len12 hlen
      have hG := hI.1
      replace hI := hI.2
      have f0 := hide hI.1
      replace hI := hI.2
      have f1 := hide hI.1
      replace hI := hI.2
      have f2 := hide hI.1
      replace hI := hI.2
      have f3 := hide hI.1
      replace hI := hI.2
      have f4 := hide hI.1
      replace hI := hI.2
      have f5 := hide hI.1
      replace hI := hI.2
      have f6 := hide hI.1
      replace hI := hI.2
      have f7 := hide hI.1
      replace hI := hI.2
      have f8 := hide hI.1
      replace hI := hI.2
      have f9 := hide hI.1
      replace hI := hI.2
      have f10 := hide hI.1
      replace hI := hI.2
      have f11 := hide hI
      clear hI
      have p0 := keep hG p0
      have p2 := keep hG p2
      obtain rfl := f3.out (hD.on 3 (by kernel_rfl))
      obtain rfl := f7.out (hD.on 7 (by kernel_rfl))
      try simp only [puts, Act.put, List.setIfInBounds_toArray, List.set_cons_zero, List.set_cons_succ]
      try go_simp
      exact hK.out _ _ _ (by simp only [puts, Act.put, List.setIfInBounds_toArray, List.set_cons_zero, List.set_cons_succ] <;> rfl) ⟨hG, (fun h => f0.out h), (fun h => f1.out h), (fun h => f2.out h), (fun h => f3.out h), (fun h => f4.out h), (fun h => f5.out h), (fun h => f6.out h), (fun h => f7.out h), (fun _ => rfl), (fun h => f9.out h), (fun h => f10.out h), (fun h => f11.out h)⟩
    · intro L vs W hlen hL hD hI K hK
      obtain ⟨x0, x1, x2, x3, x4, x5, x6, x7, x8, x9, x10, x11, rfl⟩ := len12 hlen
      have hG := hI.1
      replace hI := hI.2
      have f0 := hide hI.1
      replace hI := hI.2
      have f1 := hide hI.1
      replace hI := hI.2
      have f2 := hide hI.1
      replace hI := hI.2
      have f3 := hide hI.1
      replace hI := hI.2
      have f4 := hide hI.1
      replace hI := hI.2
      have f5 := hide hI.1
      replace hI := hI.2
      have f6 := hide hI.1
      replace hI := hI.2
      have f7 := hide hI.1
      replace hI := hI.2
      have f8 := hide hI.1
      replace hI := hI.2
      have f9 := hide hI.1
      replace hI := hI.2
      have f10 := hide hI.1
      replace hI := hI.2
      have f11 := hide hI
      clear hI
      have p0 := keep hG p0
      have p2 := keep hG p2
      obtain rfl := f1.out (hD.on 1 (by kernel_rfl))
      obtain rfl := f8.out (hD.on 8 (by kernel_rfl))
      try simp only [puts, Act.put, List.setIfInBounds_toArray, List.set_cons_zero, List.set_cons_succ]
      try go_simp
      exact hK.out _ _ _ (by simp only [puts, Act.put, List.setIfInBounds_toArray, List.set_cons_zero, List.set_cons_succ] <;> rfl) ⟨hG, (fun h => f0.out h), (fun h => f1.out h), (fun h => f2.out h), (fun h => f3.out h), (fun h => f4.out h), (fun h => f5.out h), (fun h => f6.out h), (fun h => f7.out h), (fun h => f8.out h), (fun _ => rfl), (fun h => f10.out h), (fun h => f11.out h)⟩
    · intro L vs W hlen hL hD hI K hK
      obtain ⟨x0, x1, x2, x3, x4, x5, x6, x7, x8, x9, x10, x11, rfl⟩ := len12 hlen
      have hG := hI.1
      replace hI := hI.2
      have f0 := hide hI.1
      replace hI := hI.2
      have f1 := hide hI.1
      replace hI := hI.2
      have f2 := hide hI.1
      replace hI := hI.2
      have f3 := hide hI.1
      replace hI := hI.2
      have f4 := hide hI.1
      replace hI := hI.2
      have f5 := hide hI.1
      replace hI := hI.2
      have f6 := hide hI.1
      replace hI := hI.2
      have f7 := hide hI.1
      replace hI := hI.2
      have f8 := hide hI.1
      replace hI := hI.2
      have f9 := hide hI.1
      replace hI := hI.2
      have f10 := hide hI.1
      replace hI := hI.2
      have f11 := hide hI
      clear hI
      have p0 := keep hG p0
      have p2 := keep hG p2
      try simp only [puts, Act.put, List.setIfInBounds_toArray, List.set_cons_zero, List.set_cons_succ]
      try go_simp
      generalize hW' : World.alloc W _ = W'
      have hb : Below W.heap.size W W' := by rw [← hW']; exact bal W _
      exact hK.out _ _ _ (by simp only [puts, Act.put, List.setIfInBounds_toArray, List.set_cons_zero, List.set_cons_succ] <;> rfl) ⟨below2 hG hb, (fun h => f0.out h), (fun h => f1.out h), (fun h => f2.out h), (fun h => f3.out h), (fun h => f4.out h), (fun h => f5.out h), (fun h => f6.out h), (fun h => f7.out h), (fun h => f8.out h), (fun h => f9.out h), (fun _ => fun _ => ⟨W.heap.size, hG.size, rfl, by rw [← hW']; exact Blk.newA W _ rfl⟩), (fun h => (fun h => absurd (h.1.symm.trans hL) (by decide)) (f11.out h))⟩
    · intro L vs W hlen hL hD hI K hK
      obtain ⟨x0, x1, x2, x3, x4, x5, x6, x7, x8, x9, x10, x11, rfl⟩ := len12 hlen
      have hG := hI.1
      replace hI := hI.2
      have f0 := hide hI.1
      replace hI := hI.2
      have f1 := hide hI.1
      replace hI := hI.2
      have f2 := hide hI.1
      replace hI := hI.2
      have f3 := hide hI.1
      replace hI := hI.2
      have f4 := hide hI.1
      replace hI := hI.2
      have f5 := hide hI.1
      replace hI := hI.2
      have f6 := hide hI.1
      replace hI := hI.2
      have f7 := hide hI.1
      replace hI := hI.2
      have f8 := hide hI.1
      replace hI := hI.2
      have f9 := hide hI.1
      replace hI := hI.2
      have f10 := hide hI.1
      replace hI := hI.2
      have f11 := hide hI
      clear hI
      have p0 := keep hG p0
      have p2 := keep hG p2
      obtain rfl := f9.out (hD.on 9 (by kernel_rfl))
      have g10 := f10.out (hD.on 10 (by kernel_rfl))
      try simp only [puts, Act.put, List.setIfInBounds_toArray, List.set_cons_zero, List.set_cons_succ]
      obtain ⟨R, hR0, rfl, hRB⟩ := g10 hL
      have n0 := hRB.frozen 0
      have n1 := hRB.frozen 1
      have n2 := hRB.frozen 2
      have t0 := hRB.cell 0 rfl
      have t1 := hRB.cell 1 rfl
      have t2 := hRB.cell 2 rfl
      go_simp
      have hS := set3 hRB (.int .i64 p.vars) (.slice none 0 0) (.slice ga gm gc)
      exact hK.out _ undef _ (by simp only [puts, Act.put, List.setIfInBounds_toArray, List.set_cons_zero, List.set_cons_succ] <;> rfl) ⟨hS.2.1 _ _ hG hR0, (fun h => f0.out h), (fun h => f1.out h), (fun h => f2.out h), (fun h => f3.out h), (fun h => f4.out h), (fun h => f5.out h), (fun h => f6.out h), (fun h => f7.out h), (fun h => f8.out h), (fun h => f9.out h), (fun h => (fun _ h11 => by cases h11) (f10.out h)), (fun _ => ⟨hD.on 10 (by kernel_rfl), R, hR0, rfl, hS.1⟩)⟩
  intro L vs W hlen hall hI
  obtain ⟨x0, x1, x2, x3, x4, x5, x6, x7, x8, x9, x10, x11, rfl⟩ := len12 hlen
  have hG := hI.1
  replace hI := hI.2
  have f0 := hide hI.1
  replace hI := hI.2
  have f1 := hide hI.1
  replace hI := hI.2
  have f2 := hide hI.1
  replace hI := hI.2
  have f3 := hide hI.1
  replace hI := hI.2
  have f4 := hide hI.1
  replace hI := hI.2
  have f5 := hide hI.1
  replace hI := hI.2
  have f6 := hide hI.1
  replace hI := hI.2
  have f7 := hide hI.1
  replace hI := hI.2
  have f8 := hide hI.1
  replace hI := hI.2
  have f9 := hide hI.1
  replace hI := hI.2
  have f10 := hide hI.1
  replace hI := hI.2
  have f11 := hide hI
  clear hI
  obtain rfl := f0.out (hall 0 (by decide))
  obtain rfl := f1.out (hall 1 (by decide))
  obtain rfl := f2.out (hall 2 (by decide))
  obtain rfl := f3.out (hall 3 (by decide))
  obtain rfl := f4.out (hall 4 (by decide))
  obtain rfl := f5.out (hall 5 (by decide))
  obtain rfl := f6.out (hall 6 (by decide))
  obtain rfl := f7.out (hall 7 (by decide))
  obtain rfl := f8.out (hall 8 (by decide))
  obtain rfl := f9.out (hall 9 (by decide))
  have g10 := f10.out (hall 10 (by decide))
  have g11 := f11.out (hall 11 (by decide))
  have hal := hide hall
  clear hall f0 f1 f2 f3 f4 f5 f6 f7 f8 f9 f10 f11
  try simp only [puts, Act.put, List.setIfInBounds_toArray, List.set_cons_zero, List.set_cons_succ]
  obtain ⟨-, O, hO0, rfl, bO⟩ := g11
  obtain ⟨W2, hW2⟩ : ∃ Z, Z = W := ⟨_, rfl⟩
  subst hW2
  clear p0 p2 hal hmin hmin2
  have bP2 := bP.later hG
  have bR2 := bR.later hG
  have hbw2 := below2 Xb hG
  have hO1 : w.heap.size + 1 < O := by have := bR.lt; omega
  have hOz := bO.lt
  clear hG bP bR Xb
  go_wp2_with fail
  go_loopw [4] (fun i wr => ∃ (k : Nat) (v : Value) (Lr : List (List Value)), k ≤ min p.rows.length 20 ∧ i = .int .i64 k ∧ Blk wr w.heap.size [.int .i64 p.vars, .slice ra p.rows.length rc, .slice ga p.gain.length gc] 27 ∧
      Blk wr (w.heap.size + 1) [.int .i64 0, .slice none 0 0, .slice none 0 0] 27 ∧ Blk wr O [.int .i64 p.vars, v, .slice ga gm gc] 27 ∧
      OwnR wr W2.heap.size 67 6 v Lr ∧ RowsLow w Lr (cutUq p.rows k) ∧ Below w.heap.size w wr ∧ W2.heap.size ≤ wr.heap.size) (fun i _ => min p.rows.length 20 - (intOf i).toNat)
  case atStart => exact ⟨0, _, [], by omega, rfl, bP2, bR2, bO, OwnR.nil _ _ _ _, ⟨rfl, fun i hi => by simp [cutUq] at hi⟩, hbw2, Nat.le_refl _⟩
  case round =>
    obtain ⟨k, v, Lr, hk, rfl, hP, hR, hO, hOR, hlow, hbr, hz⟩ := hrel
    have p1 := hP.cell 1 rfl
    by_cases hlt : k < p.rows.length
    · have hkl : decide (k < p.rows.length) = true := by simpa using hlt
      by_cases h20 : k < 20
      · have hk20 : decide (k < 20) = true := by simpa using h20
        have hki : decide ((k : Int) < 20) = true := by simp; omega
        obtain ⟨b, o, cv, rfl, hck⟩ := HRC.out k hlt
        have HLW := hide (fun (x : RowD) (cv : Value) (h : IntsAt w cv x.coef) => hlow.app h)
        have hcs := cutUq_succ hlt
        have hlr : Lr.length ≤ 20 := by have := hlow.1; rw [cutUq_len (by omega)] at this; omega
        generalize p.rows.getD k row0 = x at hck hcs
        obtain ⟨e0, e1, e2, e3, e4, e5, e6⟩ := hck.below hbr
        obtain ⟨-, -, -, -, -, -, e7⟩ := hck
        obtain ⟨ca, cc, rfl, hcl, hcm, -⟩ := id e6
        have HCS := hide hcs
        clear hcs
        obtain ⟨cm, hcm'⟩ : ∃ cm, cm = min x.coef.length 12 := ⟨_, rfl⟩
        have HCT : Hid (x.coef.take 12 = x.coef.take cm) := hide (by rw [hcm', take_min12])
        have hmin : (if (12 : Int) < (x.coef.length : Int) then (12 : Int) else (x.coef.length : Int)) = (cm : Int) := by split <;> omega
        have hmin3 : min (x.coef.length : Int) 12 = (cm : Int) := by omega
        have hcl1 : cm ≤ x.coef.length := by omega
        have hcl2 : cm ≤ cc := by omega
        have hxm : (x.coef.length : Int) ≤ 9223372036854775807 := by omega
        have HCI := hide (ints_take e7 hcl1)
        have o1 := hO.cell 1 rfl
        have hOw : O < wr.heap.size := hO.lt
        have hne1 : O ≠ wr.heap.size := by omega
        have hne2 : wr.heap.size ≠ O := by omega
        clear hcm'
        obtain ⟨va, vc, rfl⟩ := own_form hOR rfl
        go_wp2_with (at_builtin; refine app_rec infoRow rfl (by decide) Try.underlying24 rfl _ _ rfl W2.heap.size _ Lr rfl (hOR.later' (bal wr (.cells (rowCells (cutS x) (.slice ca cm cc)).toArray 67))) (rowCells (cutS x) (.slice ca cm cc)) rfl cells6 _ rfl (by simp) (by omega) (by omega) (by simp; omega) ?_; intro g7 c7 w7 hO7 hE7 hz7; have bO7 := hE7.blk (hO.later (bal wr (.cells (rowCells (cutS x) (.slice ca cm cc)).toArray 67))) (by decide); have o71 := bO7.cell 1 rfl; have of7 := bO7.frozen 1)
        have hP7 := (hE7.blk (hP.later (bal wr (.cells (rowCells (cutS x) (.slice ca cm cc)).toArray 67))) (by decide)).other (show w.heap.size ≠ O by omega) 1 (.slice (some ⟨g7, 0, none⟩) (Lr.length + 1) c7)
        have hR7 := (hE7.blk (hR.later (bal wr (.cells (rowCells (cutS x) (.slice ca cm cc)).toArray 67))) (by decide)).other (show w.heap.size + 1 ≠ O by omega) 1 (.slice (some ⟨g7, 0, none⟩) (Lr.length + 1) c7)
        have hsz := hE7.size
        simp at hsz
        have hb7 : Below w.heap.size w w7 := (hbr.trans ((bal wr (.cells (rowCells (cutS x) (.slice ca cm cc)).toArray 67)).mono hbr.size)).trans ((hE7.below (by simp; omega)).mono (by omega))
        go_roundw
        case rel => exact ⟨k + 1, _, _, by omega, by go_num, hP7, hR7, bO7.set 1 _, by have := hO7.setO (j := 1) bO7 (by decide) (.slice (some ⟨g7, 0, none⟩) (Lr.length + 1) c7); rw [List.length_append] at this; exact this, by rw [HCS.out]; exact HLW.out (cutS x) _ (by show IntsAt w _ (x.coef.take 12); rw [HCT.out]; exact HCI.out), hb7.setCell (p := ⟨O, 1, none⟩) (by show w.heap.size ≤ O; omega) _, by simp [World.setCell]; omega⟩
        case measure => simp [intOf]; omega
      · obtain rfl : k = 20 := by omega
        have hk20 : decide ((20 : Nat) < 20) = false := by decide
        have HFW := HFF.out
        rw [(show min p.rows.length 20 = 20 by omega)] at HFW
        have HFZ := hide HFW
        clear HFW
        obtain ⟨va, vc, rfl⟩ := own_form hOR hlow.1
        have HLO := hide hlow
        clear hlow
        generalize cutUq p.rows (20) = OK at *
        have o0 := hO.cell 0 rfl
        have o1 := hO.cell 1 rfl
        have o2 := hO.cell 2 rfl
        have t0 := hR.cell 0 rfl
        have t1 := hR.cell 1 rfl
        have t2 := hR.cell 2 rfl
        have f0 := hR.frozen 0
        have f1 := hR.frozen 1
        have f2 := hR.frozen 2
        go_wp2_with fail
        have hORf := ((hOR.setO (j := 0) hR (by decide) (.int .i64 p.vars)).setO (j := 1) (hR.set 0 _) (by decide) (.slice va OK.length vc)).setO (j := 2) ((hR.set 0 _).set 1 _) (by decide) (.slice ga gm gc)
        obtain ⟨z1, z2, -⟩ := set3 hR (.int .i64 p.vars) (.slice va OK.length vc) (.slice ga gm gc)
        have z3 := z2 _ _ hbr (by omega)
        generalize World.setCell (World.setCell _ _ _) ⟨w.heap.size + 1, 2, none⟩ _ = Wf at z1 z3 hORf ⊢
        have y0 := z1.cell 0 rfl
        have y1 := z1.cell 1 rfl
        have y2 := z1.cell 2 rfl
        refine bodyPost_ret (v := .agg #[.int .i64 p.vars, .slice va OK.length vc, .slice ga gm gc]) (by simp [results, Try.results13, go_sem, y0, y1, y2]) rfl ?_
        show ProgQ1 (someF p) w _ _
        rw [HFZ.out, HGT.out]
        exact ⟨_, _, rfl, HLO.out.rows hORf z3, IntsAt.below z3 HGI.out, z3⟩
    · obtain rfl : k = p.rows.length := by omega
      have HFW := HFF.out
      rw [(show min p.rows.length 20 = p.rows.length by omega)] at HFW
      have HFZ := hide HFW
      clear HFW
      obtain ⟨va, vc, rfl⟩ := own_form hOR hlow.1
      have HLO := hide hlow
      clear hlow
      generalize cutUq p.rows (p.rows.length) = OK at *
      have o0 := hO.cell 0 rfl
      have o1 := hO.cell 1 rfl
      have o2 := hO.cell 2 rfl
      have t0 := hR.cell 0 rfl
      have t1 := hR.cell 1 rfl
      have t2 := hR.cell 2 rfl
      have f0 := hR.frozen 0
      have f1 := hR.frozen 1
      have f2 := hR.frozen 2
      go_wp2_with fail
      have hORf := ((hOR.setO (j := 0) hR (by decide) (.int .i64 p.vars)).setO (j := 1) (hR.set 0 _) (by decide) (.slice va OK.length vc)).setO (j := 2) ((hR.set 0 _).set 1 _) (by decide) (.slice ga gm gc)
      obtain ⟨z1, z2, -⟩ := set3 hR (.int .i64 p.vars) (.slice va OK.length vc) (.slice ga gm gc)
      have z3 := z2 _ _ hbr (by omega)
      generalize World.setCell (World.setCell _ _ _) ⟨w.heap.size + 1, 2, none⟩ _ = Wf at z1 z3 hORf ⊢
      have y0 := z1.cell 0 rfl
      have y1 := z1.cell 1 rfl
      have y2 := z1.cell 2 rfl
      refine bodyPost_ret (v := .agg #[.int .i64 p.vars, .slice va OK.length vc, .slice ga gm gc]) (by simp [results, Try.results13, go_sem, y0, y1, y2]) rfl ?_
      show ProgQ1 (someF p) w _ _
      rw [HFZ.out, HGT.out]
      exact ⟨_, _, rfl, HLO.out.rows hORf z3, IntsAt.below z3 HGI.out, z3⟩
end Go.Proofs.Ytppfdjjhloaopaa
