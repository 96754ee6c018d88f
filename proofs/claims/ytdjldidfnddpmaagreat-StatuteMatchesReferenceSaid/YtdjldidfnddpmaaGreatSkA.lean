/- Decide of valid laws; a clause of own laws that gets another list. Conditions: how the laws lie in memory. -/
import Derived.Test.YtdjldidfnddpmaaGreatSrC
import Derived.Test.YtdjldidfnddpmaaGreatSvB
import Derived.Test.YtdjldidfnddpmaaGreatStV
import Derived.Test.YtdjldidfnddpmaaGreatSrD
import Derived.Test.YtdjldidfnddpmaaGreatAppK
import Derived.Deep.RegionLawGrows
import Derived.Test.YtdjldidfnddpmaaGreatSwF
/- Walks of the reference of chapter 31: finds. Conditions: how the list lies in memory. -/
namespace Go.Proofs.YtdjldidfnddpmaaGreat
open Go.RowKit
set_option maxRecDepth 100000 in
set_option maxHeartbeats 2000000 in
theorem findsr_any (l : List FindD) (n : Int) (h : Bool) (v : Value) (w : World) (hv : FindsIn w.cell? v l) : Calls Tryz.prog 69 #[v, .int .i64 n, .bool h] w (Ret (.bool (findsB l n h)) w) := by
  have HV := hide hv
  obtain ⟨a, m, rfl, h1, h2, -⟩ := id hv
  have HN := hide (fun k (hk : k < l.length) hm h2 => any_succ' (l := l) (p := fun y => decide (y.says = n) && (y.holds == h)) (d := find0) hk hm h2)
  have HY := hide (fun k (hk : k < l.length) h2 => any_yes' (l := l) (p := fun y => decide (y.says = n) && (y.holds == h)) (d := find0) hk h2)
  have HE : Hid (findsB l n h = l.any fun y => decide (y.says = n) && (y.holds == h)) := hide rfl
  have H0 : Hid ((l.take l.length).any (fun y => decide (y.says = n) && (y.holds == h)) = l.any fun y => decide (y.says = n) && (y.holds == h)) := hide (by rw [List.take_length])
  generalize findsB l n h = R at HE ⊢
  generalize (fun y : FindD => decide (y.says = n) && (y.holds == h)) = p at HN HY HE H0
  have hlI : (l.length : Int) ≤ 9223372036854775807 := by omega
  clear hv
  go_enter Tryz.func69, Tryz.ntmps69
  go_wp2_with fail
  go_loopw [7] (fun i wr => ∃ k : Nat, k ≤ l.length ∧ i = .int .i64 k ∧ Hid ((l.take k).any p = false) ∧ Below w.heap.size w wr) (fun i _ => l.length - (intOf i).toNat)
  case atStart => exact ⟨0, by omega, rfl, hide rfl, Below.refl _ _⟩
  case round =>
    obtain ⟨k, hk, rfl, HM, hbr⟩ := hrel
    by_cases hlt : k < l.length
    · have HK := hide hlt
      have hltI : (k : Int) < l.length := by omega
      obtain ⟨b, o, e, hck⟩ := (HV.out.below hbr).cell hlt
      cases e
      have HNK := hide (HN.out k hlt HM.out)
      have HYK := hide (HY.out k hlt)
      generalize l.getD k find0 = y at hck HNK HYK
      have c0 := hck 0 _ rfl
      have c1 := hck 1 _ rfl
      rw [Nat.add_zero] at c0
      clear hck
      by_cases e1 : y.says = n
      · have d1 : (y.says == n) = true := by simpa using e1
        have d1' := decT e1
        cases e2 : (y.holds == h)
        · have HM2 := hide (HNK.out (by rw [e2, Bool.and_false]))
          clear e1
          go_wp2_with fail
          go_roundw
          case rel => exact ⟨k + 1, by have := HK.out; omega, by go_num, HM2, hbr⟩
          case measure => have := HK.out; simp [intOf]; omega
        · have HF : Hid (R = true) := hide (by rw [HE.out]; exact HYK.out (by rw [d1', e2]; rfl))
          clear e1
          go_wp2_with fail
          go_ret
          exact ⟨by rw [HF.out]; rfl, hbr⟩
      · have d1 : (y.says == n) = false := by simpa using e1
        have HM2 := hide (HNK.out (by rw [decF e1, Bool.false_and]))
        clear e1
        go_wp2_with fail
        go_roundw
        case rel => exact ⟨k + 1, by have := HK.out; omega, by go_num, HM2, hbr⟩
        case measure => have := HK.out; simp [intOf]; omega
    · obtain rfl : k = l.length := by omega
      have HF : Hid (R = false) := hide (by rw [HE.out, ← H0.out]; exact HM.out)
      go_wp2_with fail
      go_ret
      exact ⟨by rw [HF.out]; rfl, hbr⟩
end Go.Proofs.YtdjldidfnddpmaaGreat
/- The walk of the reference's right (chapter 31), for what holds by a fact, and by a clause. Conditions: how the laws lie in memory. -/
namespace Go.Proofs.YtdjldidfnddpmaaGreat
open Go.RowKit
set_option maxRecDepth 100000 in
set_option maxHeartbeats 4000000 in
theorem rightA_any (c : CodeD) (q : QueryD) (xs xf : Int) (cv rv fv lv : Value) (w : World) (h : CodeIn w.cell? cv rv fv c) :
    Calls Tryz.prog 55 #[codeV cv rv fv, queryV q, .agg #[.int .i64 xs, .bool true, .int .i64 xf, .int .i64 (-1)], lv] w (Ret (.bool (inB xf 0 (c.facts.length - 1) && statesB (c.facts.getD xf.toNat fact0) q && saysB c xs xf.toNat)) w) := by
  have HC := hide h
  obtain ⟨⟨ca, cn, rfl, -, -, -⟩, ⟨ra, rn, rfl, -, -, -⟩, ⟨fa, fn, rfl, hf1, hf2, -⟩⟩ := id h
  have HG := hide (fun h : inB xf 0 (c.facts.length - 1) = true => inB_iff.1 h)
  have HIN := hide (fun W => inr_any xf 0 ((c.facts.length : Int) - 1) W)
  have HSY : Hid (saysB c xs xf.toNat = decide ((c.facts.getD xf.toNat fact0).says = xs)) := hide rfl
  have hfl : (c.facts.length : Int) ≤ 9223372036854775807 := by omega
  have ww : IntKind.i64.wrap ((c.facts.length : Int) - 1) = (c.facts.length : Int) - 1 := IntWalk.i64_in _ (by omega)
  generalize inB xf 0 ((c.facts.length : Int) - 1) = ib at *
  generalize saysB c xs xf.toNat = sy at *
  clear h hf1 hf2
  cases ib
  · have HR : Hid ((false && statesB (c.facts.getD xf.toNat fact0) q && sy) = false) := hide rfl
    generalize (false && statesB (c.facts.getD xf.toNat fact0) q && sy) = R at HR ⊢
    go_enter Tryz.func55, Tryz.ntmps55
    go_wp2_with fail
    generalize hX1 : World.alloc w _ = X1
    have zX1 : X1.heap.size = w.heap.size + 1 := by rw [← hX1]; simp
    have bX1 : Below w.heap.size w X1 := by rw [← hX1]; exact bal w _
    have bC_1 : Blk X1 (w.heap.size) [.slice ca c.clauses.length cn, .slice ra c.repeals.length rn, .slice fa c.facts.length fn] 30 := by rw [← hX1]; exact Blk.newA w _ (by first | rfl | simp)
    generalize hX2 : World.alloc X1 _ = X2
    have zX2 : X2.heap.size = w.heap.size + 1 + 1 := by rw [← hX2]; simp [zX1]
    have bX2 : Below X1.heap.size X1 X2 := by rw [← hX2]; exact bal X1 _
    have bQ_2 : Blk X2 (w.heap.size + 1) (queryC q) 33 := by rw [← hX2, ← zX1]; exact Blk.newA X1 _ (by first | rfl | simp)
    have bC_2 := bC_1.later bX2
    generalize hX3 : World.alloc X2 _ = X3
    have zX3 : X3.heap.size = w.heap.size + 1 + 1 + 1 := by rw [← hX3]; simp [zX2]
    have bX3 : Below X2.heap.size X2 X3 := by rw [← hX3]; exact bal X2 _
    have bX : Blk X3 (w.heap.size + 1 + 1) [.int .i64 xs, .bool true, .int .i64 xf, .int .i64 (-1)] 62 := by rw [← hX3, ← zX2]; exact Blk.newA X2 _ (by first | rfl | simp)
    have bC := bC_2.later bX3
    have bQ := bQ_2.later bX3
    have Xb := below2 (below2 (bX1) bX2) bX3
    have Xz := zX3
    clear hX1 zX1 bX1 hX2 zX2 bX2 hX3 zX3 bX3 bC_1 bC_2 bQ_2
    have c2 := bwc (bC.cell 2 rfl)
    have x0 := bwc (bX.cell 0 rfl)
    have x2 := bwc (bX.cell 2 rfl)
    go_wp2_with fail
    refine wp_region_bw (by kernel_rfl) (by kernel_rfl) ?_
    repeat (go_big_quiet_step ((go_at_call 42; exact quiet (HIN.out _))))
    refine wpQuiet_nil ?_
    rintro _ ⟨ix, rfl⟩
    go_wp2_with fail
    go_ret
    exact ⟨by rw [HR.out]; rfl, below2 Xb ix.h⟩
  · obtain ⟨g0, g1⟩ := HG.out rfl
    obtain ⟨f, rfl⟩ : ∃ f : Nat, xf = f := ⟨xf.toNat, by omega⟩
    have hfn : f < c.facts.length := by omega
    have hfnI : (f : Int) < c.facts.length := by omega
    have hmx : max (f : Int) 0 = f := by omega
    have hmx2 : decide ((f : Int) < 0) = false := decide_eq_false (by omega)
    rw [Int.toNat_natCast] at HSY ⊢
    obtain ⟨fb, fo, e, hck⟩ := HC.out.fa.cell hfn
    cases e
    have HFA := hide (fun W => factr_any (c.facts.getD f fact0) q W)
    generalize c.facts.getD f fact0 = y at hck HSY HFA ⊢
    generalize statesB y q = st at *
    have k0' := hck 0 _ rfl
    rw [Nat.add_zero] at k0'
    have k1' := hck 1 _ rfl
    have k2' := hck 2 _ rfl
    have k3' := hck 3 _ rfl
    have k4' := hck 4 _ rfl
    have k5' := hck 5 _ rfl
    clear hck HG
    have HR : Hid ((true && st && sy) = (st && sy)) := hide rfl
    generalize (true && st && sy) = R at HR ⊢
    cases st
    · go_enter Tryz.func55, Tryz.ntmps55
      go_wp2_with fail
      generalize hX1 : World.alloc w _ = X1
      have zX1 : X1.heap.size = w.heap.size + 1 := by rw [← hX1]; simp
      have bX1 : Below w.heap.size w X1 := by rw [← hX1]; exact bal w _
      have bC_1 : Blk X1 (w.heap.size) [.slice ca c.clauses.length cn, .slice ra c.repeals.length rn, .slice (some ⟨fb, fo, none⟩) c.facts.length fn] 30 := by rw [← hX1]; exact Blk.newA w _ (by first | rfl | simp)
      generalize hX2 : World.alloc X1 _ = X2
      have zX2 : X2.heap.size = w.heap.size + 1 + 1 := by rw [← hX2]; simp [zX1]
      have bX2 : Below X1.heap.size X1 X2 := by rw [← hX2]; exact bal X1 _
      have bQ_2 : Blk X2 (w.heap.size + 1) (queryC q) 33 := by rw [← hX2, ← zX1]; exact Blk.newA X1 _ (by first | rfl | simp)
      have bC_2 := bC_1.later bX2
      generalize hX3 : World.alloc X2 _ = X3
      have zX3 : X3.heap.size = w.heap.size + 1 + 1 + 1 := by rw [← hX3]; simp [zX2]
      have bX3 : Below X2.heap.size X2 X3 := by rw [← hX3]; exact bal X2 _
      have bX : Blk X3 (w.heap.size + 1 + 1) [.int .i64 xs, .bool true, .int .i64 f, .int .i64 (-1)] 62 := by rw [← hX3, ← zX2]; exact Blk.newA X2 _ (by first | rfl | simp)
      have bC := bC_2.later bX3
      have bQ := bQ_2.later bX3
      have Xb := below2 (below2 (bX1) bX2) bX3
      have Xz := zX3
      clear hX1 zX1 bX1 hX2 zX2 bX2 hX3 zX3 bX3 bC_1 bC_2 bQ_2
      have c2 := bwc (bC.cell 2 rfl)
      have x0 := bwc (bX.cell 0 rfl)
      have x2 := bwc (bX.cell 2 rfl)
      have q0 := bwc (bQ.cell 0 rfl)
      have q1 := bwc (bQ.cell 1 rfl)
      have q2 := bwc (bQ.cell 2 rfl)
      have q3 := bwc (bQ.cell 3 rfl)
      have k0 := bwc (keep Xb k0')
      have k1 := bwc (keep Xb k1')
      have k2 := bwc (keep Xb k2')
      have k3 := bwc (keep Xb k3')
      have k4 := bwc (keep Xb k4')
      have k5 := bwc (keep Xb k5')
      go_wp2_with fail
      refine wp_region_bw (by kernel_rfl) (by kernel_rfl) ?_
      repeat (go_big_quiet_step ((first | (go_at_call 42; exact quiet (HIN.out _)) | (go_at_call 53; exact quiet (HFA.out _)))))
      refine wpQuiet_nil ?_
      rintro _ ⟨ix, rfl⟩
      go_wp2_with fail
      go_ret
      exact ⟨by rw [HR.out]; rfl, below2 Xb ix.h⟩
    · have HR2 : Hid (R = decide (y.says = xs)) := hide (by rw [HR.out, HSY.out]; rfl)
      by_cases hy : y.says = xs
      · have dy : (y.says == xs) = true := by simpa using hy
        have HR3 : Hid (R = true) := hide (by rw [HR2.out]; exact decT hy)
        clear hy HR HR2 HSY
        go_enter Tryz.func55, Tryz.ntmps55
        go_wp2_with fail
        generalize hX1 : World.alloc w _ = X1
        have zX1 : X1.heap.size = w.heap.size + 1 := by rw [← hX1]; simp
        have bX1 : Below w.heap.size w X1 := by rw [← hX1]; exact bal w _
        have bC_1 : Blk X1 (w.heap.size) [.slice ca c.clauses.length cn, .slice ra c.repeals.length rn, .slice (some ⟨fb, fo, none⟩) c.facts.length fn] 30 := by rw [← hX1]; exact Blk.newA w _ (by first | rfl | simp)
        generalize hX2 : World.alloc X1 _ = X2
        have zX2 : X2.heap.size = w.heap.size + 1 + 1 := by rw [← hX2]; simp [zX1]
        have bX2 : Below X1.heap.size X1 X2 := by rw [← hX2]; exact bal X1 _
        have bQ_2 : Blk X2 (w.heap.size + 1) (queryC q) 33 := by rw [← hX2, ← zX1]; exact Blk.newA X1 _ (by first | rfl | simp)
        have bC_2 := bC_1.later bX2
        generalize hX3 : World.alloc X2 _ = X3
        have zX3 : X3.heap.size = w.heap.size + 1 + 1 + 1 := by rw [← hX3]; simp [zX2]
        have bX3 : Below X2.heap.size X2 X3 := by rw [← hX3]; exact bal X2 _
        have bX : Blk X3 (w.heap.size + 1 + 1) [.int .i64 xs, .bool true, .int .i64 f, .int .i64 (-1)] 62 := by rw [← hX3, ← zX2]; exact Blk.newA X2 _ (by first | rfl | simp)
        have bC := bC_2.later bX3
        have bQ := bQ_2.later bX3
        have Xb := below2 (below2 (bX1) bX2) bX3
        have Xz := zX3
        clear hX1 zX1 bX1 hX2 zX2 bX2 hX3 zX3 bX3 bC_1 bC_2 bQ_2
        have c2 := bwc (bC.cell 2 rfl)
        have x0 := bwc (bX.cell 0 rfl)
        have x2 := bwc (bX.cell 2 rfl)
        have q0 := bwc (bQ.cell 0 rfl)
        have q1 := bwc (bQ.cell 1 rfl)
        have q2 := bwc (bQ.cell 2 rfl)
        have q3 := bwc (bQ.cell 3 rfl)
        have k0 := bwc (keep Xb k0')
        have k1 := bwc (keep Xb k1')
        have k2 := bwc (keep Xb k2')
        have k3 := bwc (keep Xb k3')
        have k4 := bwc (keep Xb k4')
        have k5 := bwc (keep Xb k5')
        go_wp2_with fail
        refine wp_region_bw (by kernel_rfl) (by kernel_rfl) ?_
        repeat (go_big_quiet_step ((first | (go_at_call 42; exact quiet (HIN.out _)) | (go_at_call 53; exact quiet (HFA.out _)))))
        refine wpQuiet_nil ?_
        rintro _ ⟨ix, rfl⟩
        go_wp2_with fail
        go_ret
        exact ⟨by rw [HR3.out]; rfl, below2 Xb ix.h⟩
      · have dy : (y.says == xs) = false := by simpa using hy
        have HR3 : Hid (R = false) := hide (by rw [HR2.out]; exact decF hy)
        clear hy HR HR2 HSY
        go_enter Tryz.func55, Tryz.ntmps55
        go_wp2_with fail
        generalize hX1 : World.alloc w _ = X1
        have zX1 : X1.heap.size = w.heap.size + 1 := by rw [← hX1]; simp
        have bX1 : Below w.heap.size w X1 := by rw [← hX1]; exact bal w _
        have bC_1 : Blk X1 (w.heap.size) [.slice ca c.clauses.length cn, .slice ra c.repeals.length rn, .slice (some ⟨fb, fo, none⟩) c.facts.length fn] 30 := by rw [← hX1]; exact Blk.newA w _ (by first | rfl | simp)
        generalize hX2 : World.alloc X1 _ = X2
        have zX2 : X2.heap.size = w.heap.size + 1 + 1 := by rw [← hX2]; simp [zX1]
        have bX2 : Below X1.heap.size X1 X2 := by rw [← hX2]; exact bal X1 _
        have bQ_2 : Blk X2 (w.heap.size + 1) (queryC q) 33 := by rw [← hX2, ← zX1]; exact Blk.newA X1 _ (by first | rfl | simp)
        have bC_2 := bC_1.later bX2
        generalize hX3 : World.alloc X2 _ = X3
        have zX3 : X3.heap.size = w.heap.size + 1 + 1 + 1 := by rw [← hX3]; simp [zX2]
        have bX3 : Below X2.heap.size X2 X3 := by rw [← hX3]; exact bal X2 _
        have bX : Blk X3 (w.heap.size + 1 + 1) [.int .i64 xs, .bool true, .int .i64 f, .int .i64 (-1)] 62 := by rw [← hX3, ← zX2]; exact Blk.newA X2 _ (by first | rfl | simp)
        have bC := bC_2.later bX3
        have bQ := bQ_2.later bX3
        have Xb := below2 (below2 (bX1) bX2) bX3
        have Xz := zX3
        clear hX1 zX1 bX1 hX2 zX2 bX2 hX3 zX3 bX3 bC_1 bC_2 bQ_2
        have c2 := bwc (bC.cell 2 rfl)
        have x0 := bwc (bX.cell 0 rfl)
        have x2 := bwc (bX.cell 2 rfl)
        have q0 := bwc (bQ.cell 0 rfl)
        have q1 := bwc (bQ.cell 1 rfl)
        have q2 := bwc (bQ.cell 2 rfl)
        have q3 := bwc (bQ.cell 3 rfl)
        have k0 := bwc (keep Xb k0')
        have k1 := bwc (keep Xb k1')
        have k2 := bwc (keep Xb k2')
        have k3 := bwc (keep Xb k3')
        have k4 := bwc (keep Xb k4')
        have k5 := bwc (keep Xb k5')
        go_wp2_with fail
        refine wp_region_bw (by kernel_rfl) (by kernel_rfl) ?_
        repeat (go_big_quiet_step ((first | (go_at_call 42; exact quiet (HIN.out _)) | (go_at_call 53; exact quiet (HFA.out _)))))
        refine wpQuiet_nil ?_
        rintro _ ⟨ix, rfl⟩
        go_wp2_with fail
        go_ret
        exact ⟨by rw [HR3.out]; rfl, below2 Xb ix.h⟩
end Go.Proofs.YtdjldidfnddpmaaGreat
/- The walk of the reference's right (chapter 31), for what holds by a clause. Conditions: how the laws lie in memory. -/
namespace Go.Proofs.YtdjldidfnddpmaaGreat
open Go.RowKit
set_option maxRecDepth 100000 in
set_option maxHeartbeats 4000000 in
theorem rightB_any (c : CodeD) (q : QueryD) (xs xf xc : Int) (l : List FindD) (cv rv fv lv : Value) (w : World) (h : CodeIn w.cell? cv rv fv c) (hl : FindsIn w.cell? lv l) (hx : xc ≠ -1) :
    Calls Tryz.prog 55 #[codeV cv rv fv, queryV q, .agg #[.int .i64 xs, .bool true, .int .i64 xf, .int .i64 xc], lv] w
      (Ret (.bool (decide (xf = -1) && inB xc 0 (c.clauses.length - 1) && rulesB c xc.toNat q && decide ((c.clauses.getD xc.toNat clause0).gives = xs) && ((c.clauses.getD xc.toNat clause0).needs.all fun n => findsB l n true) && (c.clauses.getD xc.toNat clause0).bars.all fun n => findsB l n false)) w) := by
  have HC := hide h
  obtain ⟨⟨ca, cn, rfl, hc1, hc2, -⟩, ⟨ra, rn, rfl, -, -, -⟩, ⟨fa, fn, rfl, -, -, -⟩⟩ := id h
  have HG := hide (fun h : inB xc 0 (c.clauses.length - 1) = true => inB_iff.1 h)
  have HIN := hide (fun W => inr_any xc 0 ((c.clauses.length : Int) - 1) W)
  have dx : (xc == -1) = false := by simpa using hx
  have HFT := hide (fun n W (hb : Below w.heap.size w W) => findsr_any l n true lv W (hl.below hb))
  have HFF := hide (fun n W (hb : Below w.heap.size w W) => findsr_any l n false lv W (hl.below hb))
  have HNN := hide (fun k (hk : k < (c.clauses.getD xc.toNat clause0).needs.length) h2 => all_no' (p := fun n => findsB l n true) (d := 0) hk h2)
  have HNY := hide (fun k (hk : k < (c.clauses.getD xc.toNat clause0).needs.length) h1 h2 => all_succ' (p := fun n => findsB l n true) (d := 0) hk h1 h2)
  have HBN := hide (fun k (hk : k < (c.clauses.getD xc.toNat clause0).bars.length) h2 => all_no' (p := fun n => findsB l n false) (d := 0) hk h2)
  have HBY := hide (fun k (hk : k < (c.clauses.getD xc.toNat clause0).bars.length) h1 h2 => all_succ' (p := fun n => findsB l n false) (d := 0) hk h1 h2)
  have HNT : Hid (((c.clauses.getD xc.toNat clause0).needs.take (c.clauses.getD xc.toNat clause0).needs.length).all (fun n => findsB l n true) = (c.clauses.getD xc.toNat clause0).needs.all fun n => findsB l n true) := hide (by rw [List.take_length])
  have HBT : Hid (((c.clauses.getD xc.toNat clause0).bars.take (c.clauses.getD xc.toNat clause0).bars.length).all (fun n => findsB l n false) = (c.clauses.getD xc.toNat clause0).bars.all fun n => findsB l n false) := hide (by rw [List.take_length])
  have hcl : (c.clauses.length : Int) ≤ 9223372036854775807 := by omega
  have ww : IntKind.i64.wrap ((c.clauses.length : Int) - 1) = (c.clauses.length : Int) - 1 := IntWalk.i64_in _ (by omega)
  obtain ⟨R, HR⟩ : ∃ R, Hid (R = (decide (xf = -1) && inB xc 0 (c.clauses.length - 1) && rulesB c xc.toNat q && decide ((c.clauses.getD xc.toNat clause0).gives = xs) && ((c.clauses.getD xc.toNat clause0).needs.all fun n => findsB l n true) && (c.clauses.getD xc.toNat clause0).bars.all fun n => findsB l n false)) := ⟨_, hide rfl⟩
  rw [← HR.out]
  generalize ((c.clauses.getD xc.toNat clause0).needs.all fun n => findsB l n true) = AN at *
  generalize ((c.clauses.getD xc.toNat clause0).bars.all fun n => findsB l n false) = AB at *
  generalize inB xc 0 ((c.clauses.length : Int) - 1) = ib at *
  have HRC := hide (fun (k : Nat) (hk : k < c.clauses.length) W (hb : Below w.heap.size w W) => clauser_any c k q _ _ _ W (h.below hb) hk)
  clear h hl hc1 hc2 hx
  by_cases hxf : xf = -1
  · have df : (xf == -1) = true := by simpa using hxf
    have dfn : (xf != -1) = false := by simpa using hxf
    have HR1 : Hid (R = (ib && rulesB c xc.toNat q && decide ((c.clauses.getD xc.toNat clause0).gives = xs) && AN && AB)) := hide (by rw [HR.out, decide_eq_true hxf]; rfl)
    clear hxf HR
    go_enter Tryz.func55, Tryz.ntmps55
    go_wp2_with fail
    generalize hX1 : World.alloc w _ = X1
    have zX1 : X1.heap.size = w.heap.size + 1 := by rw [← hX1]; simp
    have bX1 : Below w.heap.size w X1 := by rw [← hX1]; exact bal w _
    have bC_1 : Blk X1 (w.heap.size) [.slice ca c.clauses.length cn, .slice ra c.repeals.length rn, .slice fa c.facts.length fn] 30 := by rw [← hX1]; exact Blk.newA w _ (by first | rfl | simp)
    generalize hX2 : World.alloc X1 _ = X2
    have zX2 : X2.heap.size = w.heap.size + 1 + 1 := by rw [← hX2]; simp [zX1]
    have bX2 : Below X1.heap.size X1 X2 := by rw [← hX2]; exact bal X1 _
    have bQ_2 : Blk X2 (w.heap.size + 1) (queryC q) 33 := by rw [← hX2, ← zX1]; exact Blk.newA X1 _ (by first | rfl | simp)
    have bC_2 := bC_1.later bX2
    generalize hX3 : World.alloc X2 _ = X3
    have zX3 : X3.heap.size = w.heap.size + 1 + 1 + 1 := by rw [← hX3]; simp [zX2]
    have bX3 : Below X2.heap.size X2 X3 := by rw [← hX3]; exact bal X2 _
    have bX : Blk X3 (w.heap.size + 1 + 1) [.int .i64 xs, .bool true, .int .i64 xf, .int .i64 xc] 62 := by rw [← hX3, ← zX2]; exact Blk.newA X2 _ (by first | rfl | simp)
    have bC := bC_2.later bX3
    have bQ := bQ_2.later bX3
    have Xb := below2 (below2 (bX1) bX2) bX3
    have Xz := zX3
    clear hX1 zX1 bX1 hX2 zX2 bX2 hX3 zX3 bX3 bC_1 bC_2 bQ_2
    have c0 := bC.cell 0 rfl
    have x2 := bX.cell 2 rfl
    have x3 := bX.cell 3 rfl
    go_wp2_with fail
    refine (HIN.out _).mono ?_
    rintro e w1 ⟨rfl, hb1⟩
    have hw1 := below2 Xb hb1
    replace bC := bC.later hb1
    replace bQ := bQ.later hb1
    replace bX := bX.later hb1
    clear c0 x2 x3 Xb Xz hb1 HIN
    cases ib
    · have HF : Hid (R = false) := hide (by rw [HR1.out]; rfl)
      go_wp2_with fail
      go_ret
      exact ⟨by rw [HF.out]; rfl, hw1⟩
    · obtain ⟨g0, g1⟩ := HG.out rfl
      obtain ⟨i, rfl⟩ : ∃ i : Nat, xc = i := ⟨xc.toNat, by omega⟩
      have hin : i < c.clauses.length := by omega
      have hinI : (i : Int) < c.clauses.length := by omega
      rw [Int.toNat_natCast] at HR1 HNN HNY HBN HBY HNT HBT
      obtain ⟨a', n', e', -, -, hcc⟩ := (HC.out.below hw1).cl
      cases e'
      obtain ⟨kb, ko, nv, bv, rfl, k0, k1, k2, k3, k4, k5, hnn, hbb⟩ := hcc i hin
      have HCL := hide (HRC.out i hin)
      obtain ⟨na, nn, rfl, -⟩ := id hnn
      obtain ⟨ba, bn, rfl, -⟩ := id hbb
      generalize rulesB c i q = rb at HR1 HCL
      generalize c.clauses.getD i clause0 = y at *
      have hnlI : (y.needs.length : Int) ≤ 9223372036854775807 := by obtain ⟨a', m', e', h1, h2, -⟩ := hnn; cases e'; omega
      have hblI : (y.bars.length : Int) ≤ 9223372036854775807 := by obtain ⟨a', m', e', h1, h2, -⟩ := hbb; cases e'; omega
      have HNIN := hide hnn
      have HBIN := hide hbb
      have c0 := bC.cell 0 rfl
      have x2 := bX.cell 2 rfl
      have x3 := bX.cell 3 rfl
      have d0 := fun o => keep (bal w1 o) (bC.cell 0 rfl)
      have d1 := fun o => keep (bal w1 o) (bC.cell 1 rfl)
      have d2 := fun o => keep (bal w1 o) (bC.cell 2 rfl)
      have q0 := fun o => keep (bal w1 o) (bQ.cell 0 rfl)
      have q1 := fun o => keep (bal w1 o) (bQ.cell 1 rfl)
      have q2 := fun o => keep (bal w1 o) (bQ.cell 2 rfl)
      have q3 := fun o => keep (bal w1 o) (bQ.cell 3 rfl)
      have x3' := fun o => keep (bal w1 o) (bX.cell 3 rfl)
      clear hcc hnn hbb HG HRC
      go_wp2_with fail
      generalize hY1 : World.alloc w1 _ = Y1
      have zY1 : Y1.heap.size = w1.heap.size + 1 := by rw [← hY1]; simp
      have bY1 : Below w1.heap.size w1 Y1 := by rw [← hY1]; exact bal w1 _
      have bY : Blk Y1 (w1.heap.size) (clauseC y (.slice na y.needs.length nn) (.slice ba y.bars.length bn)) 67 := by rw [← hY1]; exact Blk.newA w1 _ (by first | rfl | simp)
      have Yb := bY1
      have Yz := zY1
      clear hY1 zY1 bY1
      replace bC := bC.later Yb
      replace bQ := bQ.later Yb
      replace bX := bX.later Yb
      have hw2 := below2 hw1 Yb
      have HNI2 := hide (IntsAt.below Yb HNIN.out)
      have HBI2 := hide (IntsAt.below Yb HBIN.out)
      clear Yb Yz k0 k1 k2 k3 k4 k5 c0 x2 HNIN HBIN
      refine (HCL.out _ hw2).mono ?_
      rintro e w3 ⟨rfl, hb3⟩
      have hw3 := below2 hw2 hb3
      replace bX := bX.later hb3
      replace bY := bY.later hb3
      have HNI3 := hide (IntsAt.below hb3 HNI2.out)
      have HBI3 := hide (IntsAt.below hb3 HBI2.out)
      have hb3' := hb3
      clear hb3 d0 d1 d2 q0 q1 q2 q3 x3 x3' bC bQ HCL HNI2 HBI2
      cases rb
      · have HF : Hid (R = false) := hide (by rw [HR1.out]; rfl)
        go_wp2_with fail
        go_ret
        exact ⟨by rw [HF.out]; rfl, hw3⟩
      · have x0 := bX.cell 0 rfl
        have y5 := bY.cell 5 rfl
        by_cases hg : y.gives = xs
        · have dg : (y.gives == xs) = true := by simpa using hg
          have dgn : (y.gives != xs) = false := by simpa using hg
          have HR2 : Hid (R = (AN && AB)) := hide (by rw [HR1.out, decide_eq_true hg]; rfl)
          have HBY3 := hide bY
          have HW3 := hide hw3
          clear hg HR1 hw3 bX hb3' bY
          go_wp2_with fail
          go_loopw [10] (fun j wr => ∃ k : Nat, k ≤ y.needs.length ∧ j = .int .i64 k ∧ Hid ((y.needs.take k).all (fun n => findsB l n true) = true) ∧ Below w3.heap.size w3 wr) (fun j _ => y.needs.length - (intOf j).toNat)
          case atStart => exact ⟨0, by omega, rfl, hide rfl, Below.refl _ _⟩
          case round =>
            obtain ⟨k, hk, rfl, HM, hbr⟩ := hrel
            have bYr := HBY3.out.later hbr
            have y3 := bYr.cell 3 rfl
            have hwr := below2 HW3.out hbr
            by_cases hlt : k < y.needs.length
            · have HK := hide hlt
              have hltI : (k : Int) < y.needs.length := by omega
              obtain ⟨a', m', e', -, -, hc⟩ := HNI3.out
              cases e'
              obtain ⟨b, o, rfl, hckw⟩ := hc k hlt
              have ck := keep hbr hckw
              have HN1 := hide (HNN.out k hlt)
              have HY1 := hide (HNY.out k hlt HM.out)
              generalize y.needs.getD k 0 = m at ck hckw HN1 HY1
              have HCF := hide (HFT.out m wr hwr)
              generalize findsB l m true = fb at *
              clear hc hckw
              go_wp2_with fail
              refine HCF.out.mono ?_
              rintro e w4 ⟨rfl, hb4⟩
              have hb5 := below2 hbr hb4
              have hw5 := below2 hwr hb4
              cases fb
              · have HF : Hid (R = false) := hide (by rw [HR2.out, HN1.out rfl]; rfl)
                go_wp2_with fail
                go_ret
                exact ⟨by rw [HF.out]; rfl, hw5⟩
              · have HM2 := hide (HY1.out rfl)
                go_wp2_with fail
                go_roundw
                case rel => exact ⟨k + 1, by have := HK.out; omega, by go_num, HM2, hb5⟩
                case measure => have := HK.out; simp [intOf]; omega
            · obtain rfl : k = y.needs.length := by omega
              have HAN : Hid (AN = true) := hide (by rw [← HNT.out]; exact HM.out)
              have HR3 : Hid (R = AB) := hide (by rw [HR2.out, HAN.out]; rfl)
              have HBR := hide hbr
              clear hbr hk hlt hwr bYr
              go_wp2_with fail
              obtain ⟨wf, rfl⟩ : ∃ wf, wf = wr := ⟨_, rfl⟩
              go_loopw [11] (fun j wr => ∃ k : Nat, k ≤ y.bars.length ∧ j = .int .i64 k ∧ Hid ((y.bars.take k).all (fun n => findsB l n false) = true) ∧ Below w3.heap.size w3 wr) (fun j _ => y.bars.length - (intOf j).toNat)
              case atStart => exact ⟨0, by omega, rfl, hide rfl, HBR.out⟩
              case round =>
                obtain ⟨k, hk, rfl, HM, hbr⟩ := hrel
                have bYr := HBY3.out.later hbr
                have y4 := bYr.cell 4 rfl
                have hwr := below2 HW3.out hbr
                by_cases hlt : k < y.bars.length
                · have HK := hide hlt
                  have hltI : (k : Int) < y.bars.length := by omega
                  obtain ⟨a', m', e', -, -, hc⟩ := HBI3.out
                  cases e'
                  obtain ⟨b, o, rfl, hckw⟩ := hc k hlt
                  have ck := keep hbr hckw
                  have HN1 := hide (HBN.out k hlt)
                  have HY1 := hide (HBY.out k hlt HM.out)
                  generalize y.bars.getD k 0 = m at ck hckw HN1 HY1
                  have HCF := hide (HFF.out m wr hwr)
                  generalize findsB l m false = fb at *
                  clear hc hckw
                  go_wp2_with fail
                  refine HCF.out.mono ?_
                  rintro e w4 ⟨rfl, hb4⟩
                  have hb5 := below2 hbr hb4
                  have hw5 := below2 hwr hb4
                  cases fb
                  · have HF : Hid (R = false) := hide (by rw [HR3.out, HN1.out rfl])
                    go_wp2_with fail
                    go_ret
                    exact ⟨by rw [HF.out]; rfl, hw5⟩
                  · have HM2 := hide (HY1.out rfl)
                    go_wp2_with fail
                    go_roundw
                    case rel => exact ⟨k + 1, by have := HK.out; omega, by go_num, HM2, hb5⟩
                    case measure => have := HK.out; simp [intOf]; omega
                · obtain rfl : k = y.bars.length := by omega
                  have HF : Hid (R = true) := hide (by rw [HR3.out, ← HBT.out]; exact HM.out)
                  go_wp2_with fail
                  go_ret
                  exact ⟨by rw [HF.out]; rfl, hwr⟩
        · have dg : (y.gives == xs) = false := by simpa using hg
          have dgn : (y.gives != xs) = true := by simpa using hg
          have HF : Hid (R = false) := hide (by rw [HR1.out, decide_eq_false hg]; rfl)
          clear hg
          go_wp2_with fail
          go_ret
          exact ⟨by rw [HF.out]; rfl, hw3⟩
  · have df : (xf == -1) = false := by simpa using hxf
    have dfn : (xf != -1) = true := by simpa using hxf
    have HF : Hid (R = false) := hide (by rw [HR.out, decide_eq_false hxf]; rfl)
    clear hxf HR
    go_enter Tryz.func55, Tryz.ntmps55
    go_wp2_with fail
    generalize hX1 : World.alloc w _ = X1
    have zX1 : X1.heap.size = w.heap.size + 1 := by rw [← hX1]; simp
    have bX1 : Below w.heap.size w X1 := by rw [← hX1]; exact bal w _
    have bC_1 : Blk X1 (w.heap.size) [.slice ca c.clauses.length cn, .slice ra c.repeals.length rn, .slice fa c.facts.length fn] 30 := by rw [← hX1]; exact Blk.newA w _ (by first | rfl | simp)
    generalize hX2 : World.alloc X1 _ = X2
    have zX2 : X2.heap.size = w.heap.size + 1 + 1 := by rw [← hX2]; simp [zX1]
    have bX2 : Below X1.heap.size X1 X2 := by rw [← hX2]; exact bal X1 _
    have bQ_2 : Blk X2 (w.heap.size + 1) (queryC q) 33 := by rw [← hX2, ← zX1]; exact Blk.newA X1 _ (by first | rfl | simp)
    have bC_2 := bC_1.later bX2
    generalize hX3 : World.alloc X2 _ = X3
    have zX3 : X3.heap.size = w.heap.size + 1 + 1 + 1 := by rw [← hX3]; simp [zX2]
    have bX3 : Below X2.heap.size X2 X3 := by rw [← hX3]; exact bal X2 _
    have bX : Blk X3 (w.heap.size + 1 + 1) [.int .i64 xs, .bool true, .int .i64 xf, .int .i64 xc] 62 := by rw [← hX3, ← zX2]; exact Blk.newA X2 _ (by first | rfl | simp)
    have bC := bC_2.later bX3
    have bQ := bQ_2.later bX3
    have Xb := below2 (below2 (bX1) bX2) bX3
    have Xz := zX3
    clear hX1 zX1 bX1 hX2 zX2 bX2 hX3 zX3 bX3 bC_1 bC_2 bQ_2
    have x2 := bX.cell 2 rfl
    go_wp2_with fail
    go_ret
    exact ⟨by rw [HF.out]; rfl, Xb⟩
end Go.Proofs.YtdjldidfnddpmaaGreat
/- The walk of the reference's right (chapter 31), for what does not hold. Conditions: how the laws lie in memory. -/
namespace Go.Proofs.YtdjldidfnddpmaaGreat
open Go.RowKit
theorem any_up {α : Type} {l : List α} {p : α → Bool} {d : α} {k : Nat} (hk : k < l.length) : (l.take (k + 1)).any p = ((l.take k).any p || p (l.getD k d)) := by
  rw [take_succ' l k d hk, List.any_append]; simp only [List.any_cons, List.any_nil, Bool.or_false]
/-- nothing speaks for a number: no fact says it -/
def noFact (c : CodeD) (q : QueryD) (xs : Int) (i : Nat) : Bool := !(statesB (c.facts.getD i fact0) q && saysB c xs i)
def noCl (c : CodeD) (q : QueryD) (xs : Int) (l : List FindD) (i : Nat) : Bool := !(decide ((c.clauses.getD i clause0).gives = xs) && rulesB c i q) || barredB c l i
set_option maxRecDepth 100000 in
set_option maxHeartbeats 4000000 in
theorem rightC_any (c : CodeD) (q : QueryD) (xs xf xc : Int) (l : List FindD) (cv rv fv lv : Value) (w : World) (h : CodeIn w.cell? cv rv fv c) (hl : FindsIn w.cell? lv l) :
    Calls Tryz.prog 55 #[codeV cv rv fv, queryV q, .agg #[.int .i64 xs, .bool false, .int .i64 xf, .int .i64 xc], lv] w
      (Ret (.bool (decide (xf = -1) && decide (xc = -1) && (List.range c.facts.length).all (noFact c q xs) && (List.range c.clauses.length).all (noCl c q xs l))) w) := by
  have HC := hide h
  obtain ⟨⟨ca, cn, rfl, hc1, hc2, -⟩, ⟨ra, rn, rfl, -, -, -⟩, ⟨fa, fn, rfl, hf1, hf2, -⟩⟩ := id h
  have HFT := hide (fun n W (hb : Below w.heap.size w W) => findsr_any l n true lv W (hl.below hb))
  have HFF := hide (fun n W (hb : Below w.heap.size w W) => findsr_any l n false lv W (hl.below hb))
  have HFN := hide (fun k (hk : k < c.facts.length) h2 => allr_no (p := noFact c q xs) hk h2)
  have HFY := hide (fun k h1 h2 => allr_succ (p := noFact c q xs) (k := k) h1 h2)
  have HFE := hide (fun k => show noFact c q xs k = !(statesB (c.facts.getD k fact0) q && decide ((c.facts.getD k fact0).says = xs)) from rfl)
  have HCN := hide (fun k (hk : k < c.clauses.length) h2 => allr_no (p := noCl c q xs l) hk h2)
  have HCY := hide (fun k h1 h2 => allr_succ (p := noCl c q xs l) (k := k) h1 h2)
  have HCE := hide (fun k => show noCl c q xs l k = (!(decide ((c.clauses.getD k clause0).gives = xs) && rulesB c k q) || (((c.clauses.getD k clause0).needs.any fun n => findsB l n false) || (c.clauses.getD k clause0).bars.any fun n => findsB l n true)) from rfl)
  generalize noFact c q xs = pF at *
  generalize noCl c q xs l = pC at *
  have hcl : (c.clauses.length : Int) ≤ 9223372036854775807 := by omega
  have hfl : (c.facts.length : Int) ≤ 9223372036854775807 := by omega
  obtain ⟨R, HR⟩ : ∃ R, Hid (R = (decide (xf = -1) && decide (xc = -1) && (List.range c.facts.length).all pF && (List.range c.clauses.length).all pC)) := ⟨_, hide rfl⟩
  rw [← HR.out]
  have HRC := hide (fun (k : Nat) (hk : k < c.clauses.length) W (hb : Below w.heap.size w W) => clauser_any c k q _ _ _ W (h.below hb) hk)
  clear h hl hc1 hc2 hf1 hf2
  by_cases hxf : xf = -1
  · have df : (xf == -1) = true := by simpa using hxf
    have dfn : (xf != -1) = false := by simpa using hxf
    by_cases hxc : xc = -1
    · have dc : (xc == -1) = true := by simpa using hxc
      have dcn : (xc != -1) = false := by simpa using hxc
      have HR1 : Hid (R = ((List.range c.facts.length).all pF && (List.range c.clauses.length).all pC)) := hide (by rw [HR.out, decide_eq_true hxf, decide_eq_true hxc]; rfl)
      clear hxf hxc HR
      go_enter Tryz.func55, Tryz.ntmps55
      go_wp2_with fail
      generalize hX1 : World.alloc w _ = X1
      have zX1 : X1.heap.size = w.heap.size + 1 := by rw [← hX1]; simp
      have bX1 : Below w.heap.size w X1 := by rw [← hX1]; exact bal w _
      have bC_1 : Blk X1 (w.heap.size) [.slice ca c.clauses.length cn, .slice ra c.repeals.length rn, .slice fa c.facts.length fn] 30 := by rw [← hX1]; exact Blk.newA w _ (by first | rfl | simp)
      generalize hX2 : World.alloc X1 _ = X2
      have zX2 : X2.heap.size = w.heap.size + 1 + 1 := by rw [← hX2]; simp [zX1]
      have bX2 : Below X1.heap.size X1 X2 := by rw [← hX2]; exact bal X1 _
      have bQ_2 : Blk X2 (w.heap.size + 1) (queryC q) 33 := by rw [← hX2, ← zX1]; exact Blk.newA X1 _ (by first | rfl | simp)
      have bC_2 := bC_1.later bX2
      generalize hX3 : World.alloc X2 _ = X3
      have zX3 : X3.heap.size = w.heap.size + 1 + 1 + 1 := by rw [← hX3]; simp [zX2]
      have bX3 : Below X2.heap.size X2 X3 := by rw [← hX3]; exact bal X2 _
      have bX : Blk X3 (w.heap.size + 1 + 1) [.int .i64 xs, .bool false, .int .i64 xf, .int .i64 xc] 62 := by rw [← hX3, ← zX2]; exact Blk.newA X2 _ (by first | rfl | simp)
      have bC := bC_2.later bX3
      have bQ := bQ_2.later bX3
      have Xb := below2 (below2 (bX1) bX2) bX3
      have Xz := zX3
      clear hX1 zX1 bX1 hX2 zX2 bX2 hX3 zX3 bX3 bC_1 bC_2 bQ_2
      go_loopw [12] (fun j wr => ∃ k : Nat, k ≤ c.facts.length ∧ j = .int .i64 k ∧ Hid ((List.range k).all pF = true) ∧ Below X3.heap.size X3 wr) (fun j _ => c.facts.length - (intOf j).toNat)
      case atStart => exact ⟨0, by omega, rfl, hide rfl, Below.refl _ _⟩
      case round =>
        obtain ⟨k, hk, rfl, HM, hbr⟩ := hrel
        have bCz := bC.later hbr
        have bQz := bQ.later hbr
        have bXz := bX.later hbr
        have hwr := below2 Xb hbr
        have g2 := bCz.cell 2 rfl
        by_cases hlk : k < c.facts.length
        · have HK := hide hlk
          have hlkI : (k : Int) < c.facts.length := by omega
          obtain ⟨fb, fo, e, hcf⟩ := ((HC.out.below hwr).fa).cell hlk
          cases e
          have HS := hide (fun W => factr_any (c.facts.getD k fact0) q W)
          have HN1 := hide (HFN.out k hlk)
          have HY1 := hide (HFY.out k HM.out)
          have HE1 := hide (HFE.out k)
          generalize c.facts.getD k fact0 = x at hcf HS HE1
          generalize statesB x q = sb at HS HE1
          generalize pF k = pk at HN1 HY1 HE1
          have f0 := bwc (show wr.cell? ⟨fb, fo + k * 6, none⟩ = some (.int .i64 x.thing) from hcf 0 _ rfl)
          have f1 := bwc (show wr.cell? ⟨fb, fo + k * 6 + 1, none⟩ = some (.int .i64 x.says) from hcf 1 _ rfl)
          have f2 := bwc (show wr.cell? ⟨fb, fo + k * 6 + 2, none⟩ = some (.int .i64 x.sf) from hcf 2 _ rfl)
          have f3 := bwc (show wr.cell? ⟨fb, fo + k * 6 + 3, none⟩ = some (.int .i64 x.st) from hcf 3 _ rfl)
          have f4 := bwc (show wr.cell? ⟨fb, fo + k * 6 + 4, none⟩ = some (.int .i64 x.kf) from hcf 4 _ rfl)
          have f5 := bwc (show wr.cell? ⟨fb, fo + k * 6 + 5, none⟩ = some (.int .i64 x.kt) from hcf 5 _ rfl)
          have q0 := bwc (bQz.cell 0 rfl)
          have q1 := bwc (bQz.cell 1 rfl)
          have q2 := bwc (bQz.cell 2 rfl)
          have q3 := bwc (bQz.cell 3 rfl)
          have x0 := bwc (bXz.cell 0 rfl)
          have g2b := bwc g2
          clear hcf
          cases sb
          · have HM2 := hide (HY1.out (by rw [HE1.out]; rfl))
            go_wp2_with fail
            refine wp_region_bw (by kernel_rfl) (by kernel_rfl) ?_
            repeat (go_big_quiet_step ((go_at_call 53; exact quiet (HS.out _))))
            refine wpQuiet_nil ?_
            rintro _ ⟨ix, rfl⟩
            have hbx := below2 hbr ix.h
            go_wp2_with fail
            go_roundw
            case rel => exact ⟨k + 1, by have := HK.out; omega, by go_num, HM2, hbx⟩
            case measure => have := HK.out; simp [intOf]; omega
          · by_cases hx : x.says = xs
            · have dx : (x.says == xs) = true := by simpa using hx
              have HF : Hid (R = false) := hide (by rw [HR1.out, HN1.out (by rw [HE1.out, decide_eq_true hx]; rfl)]; rfl)
              clear hx
              go_wp2_with fail
              refine wp_region_bw (by kernel_rfl) (by kernel_rfl) ?_
              repeat (go_big_quiet_step ((go_at_call 53; exact quiet (HS.out _))))
              refine wpQuiet_nil ?_
              rintro _ ⟨ix, rfl⟩
              have hbx := below2 hwr ix.h
              go_wp2_with fail
              go_ret
              exact ⟨by rw [HF.out]; rfl, hbx⟩
            · have dx : (x.says == xs) = false := by simpa using hx
              have HM2 := hide (HY1.out (by rw [HE1.out, decide_eq_false hx]; rfl))
              clear hx
              go_wp2_with fail
              refine wp_region_bw (by kernel_rfl) (by kernel_rfl) ?_
              repeat (go_big_quiet_step ((go_at_call 53; exact quiet (HS.out _))))
              refine wpQuiet_nil ?_
              rintro _ ⟨ix, rfl⟩
              have hbx := below2 hbr ix.h
              go_wp2_with fail
              go_roundw
              case rel => exact ⟨k + 1, by have := HK.out; omega, by go_num, HM2, hbx⟩
              case measure => have := HK.out; simp [intOf]; omega
        · obtain rfl : k = c.facts.length := by omega
          have HR2 : Hid (R = (List.range c.clauses.length).all pC) := hide (by rw [HR1.out, HM.out]; rfl)
          have HBR := hide hbr
          clear hbr hk hlk hwr bCz bQz bXz
          go_wp2_with fail
          obtain ⟨wf, rfl⟩ : ∃ wf, wf = wr := ⟨_, rfl⟩
          go_loopw [13] (fun j wr => ∃ k : Nat, k ≤ c.clauses.length ∧ j = .int .i64 k ∧ Hid ((List.range k).all pC = true) ∧ Below X3.heap.size X3 wr) (fun j _ => c.clauses.length - (intOf j).toNat)
          case atStart => exact ⟨0, by omega, rfl, hide rfl, HBR.out⟩
          case round =>
            obtain ⟨i, hi, rfl, HM, hbr⟩ := hrel
            have bCz := bC.later hbr
            have bQz := bQ.later hbr
            have bXz := bX.later hbr
            have hwr := below2 Xb hbr
            have g0 := bCz.cell 0 rfl
            by_cases hli : i < c.clauses.length
            · have HI := hide hli
              have hliI : (i : Int) < c.clauses.length := by omega
              obtain ⟨a', n', e', -, -, hcc⟩ := (HC.out.below hwr).cl
              cases e'
              obtain ⟨kb, ko, nv, bv, rfl, k0, k1, k2, k3, k4, k5, hnn, hbb⟩ := hcc i hli
              have HCL := hide (HRC.out i hli)
              have HN1 := hide (HCN.out i hli)
              have HY1 := hide (HCY.out i HM.out)
              have HE1 := hide (HCE.out i)
              obtain ⟨na, nn, rfl, -⟩ := id hnn
              obtain ⟨ba, bn, rfl, -⟩ := id hbb
              generalize rulesB c i q = rb at HE1 HCL
              generalize c.clauses.getD i clause0 = y at *
              generalize pC i = pk at HN1 HY1 HE1
              have hnlI : (y.needs.length : Int) ≤ 9223372036854775807 := by obtain ⟨a', m', e', h1, h2, -⟩ := hnn; cases e'; omega
              have hblI : (y.bars.length : Int) ≤ 9223372036854775807 := by obtain ⟨a', m', e', h1, h2, -⟩ := hbb; cases e'; omega
              have HNIN := hide hnn
              have HBIN := hide hbb
              have d0 := fun o => keep (bal wr o) (bCz.cell 0 rfl)
              have d1 := fun o => keep (bal wr o) (bCz.cell 1 rfl)
              have d2 := fun o => keep (bal wr o) (bCz.cell 2 rfl)
              have q0 := fun o => keep (bal wr o) (bQz.cell 0 rfl)
              have q1 := fun o => keep (bal wr o) (bQz.cell 1 rfl)
              have q2 := fun o => keep (bal wr o) (bQz.cell 2 rfl)
              have q3 := fun o => keep (bal wr o) (bQz.cell 3 rfl)
              have x0 := fun o => keep (bal wr o) (bXz.cell 0 rfl)
              clear hcc hnn hbb
              by_cases hg : y.gives = xs
              · have dg : (y.gives == xs) = true := by simpa using hg
                have dgn : (y.gives != xs) = false := by simpa using hg
                have HE2 : Hid (pk = (!rb || ((y.needs.any fun n => findsB l n false) || y.bars.any fun n => findsB l n true))) := hide (by rw [HE1.out, decide_eq_true hg]; rfl)
                clear hg HE1
                go_wp2_with fail
                generalize hY1 : World.alloc wr _ = Y1
                have zY1 : Y1.heap.size = wr.heap.size + 1 := by rw [← hY1]; simp
                have bY1 : Below wr.heap.size wr Y1 := by rw [← hY1]; exact bal wr _
                have bY : Blk Y1 (wr.heap.size) (clauseC y (.slice na y.needs.length nn) (.slice ba y.bars.length bn)) 67 := by rw [← hY1]; exact Blk.newA wr _ (by first | rfl | simp)
                have Yb := bY1
                have Yz := zY1
                clear hY1 zY1 bY1
                have hw2 := below2 hwr Yb
                refine (HCL.out _ hw2).mono ?_
                rintro e w3 ⟨rfl, hb3⟩
                have hw3 := below2 hw2 hb3
                have hbY := below2 (below2 hbr Yb) hb3
                have HBY3 := hide (bY.later hb3)
                have HNI3 := hide (IntsAt.below hb3 (IntsAt.below Yb HNIN.out))
                have HBI3 := hide (IntsAt.below hb3 (IntsAt.below Yb HBIN.out))
                clear hb3 d0 d1 d2 q0 q1 q2 q3 x0 bCz bQz bXz HCL HNIN HBIN Yb Yz bY k0 k1 k2 k3 k4 k5 g0
                cases rb
                · have HM2 := hide (HY1.out (by rw [HE2.out]; rfl))
                  go_wp2_with fail
                  go_roundw
                  case rel => exact ⟨i + 1, by have := HI.out; omega, by go_num, HM2, hbY⟩
                  case measure => have := HI.out; simp [intOf]; omega
                · have HE3 : Hid (pk = ((y.needs.any fun n => findsB l n false) || y.bars.any fun n => findsB l n true)) := hide (by rw [HE2.out]; rfl)
                  have HW3 := hide hw3
                  have HBX := hide hbY
                  clear hw3 hbY hbr hwr hw2
                  go_wp2_with fail
                  go_loopw [15, 16] (fun bb j wr => ∃ k : Nat, k ≤ y.needs.length ∧ j = .int .i64 k ∧ bb = .bool ((y.needs.take k).any fun n => findsB l n false) ∧ Below w3.heap.size w3 wr) (fun _ j _ => y.needs.length - (intOf j).toNat)
                  case atStart => exact ⟨0, by omega, rfl, rfl, Below.refl _ _⟩
                  case round =>
                    obtain ⟨k, hk, rfl, rfl, hbr⟩ := hrel
                    have bYr := HBY3.out.later hbr
                    have y3 := bYr.cell 3 rfl
                    have hwr := below2 HW3.out hbr
                    by_cases hlt : k < y.needs.length
                    · have HK := hide hlt
                      have hltI : (k : Int) < y.needs.length := by omega
                      obtain ⟨a', m', e', -, -, hc⟩ := HNI3.out
                      cases e'
                      obtain ⟨b, o, rfl, hckw⟩ := hc k hlt
                      have ck := keep hbr hckw
                      have HU := hide (any_up (p := fun n => findsB l n false) (d := 0) hlt)
                      generalize hA1 : ((y.needs.take (k + 1)).any fun n => findsB l n false) = a1 at HU
                      have HA1 := hide hA1
                      generalize ((y.needs.take k).any fun n => findsB l n false) = a0 at *
                      generalize y.needs.getD k 0 = m at ck hckw HU
                      have HCF := hide (HFF.out m wr hwr)
                      have HU2 : Hid (a1 = (a0 || findsB l m false)) := HU
                      generalize findsB l m false = fb at HCF HU2
                      clear hc hckw hA1 HU
                      cases a0
                      · go_wp2_with fail
                        refine HCF.out.mono ?_
                        rintro e w4 ⟨rfl, hb4⟩
                        have hb5 := below2 hbr hb4
                        have HV : Hid (a1 = fb) := hide (by rw [HU2.out]; rfl)
                        go_wp2_with fail
                        go_roundw
                        case rel => exact ⟨k + 1, by have := HK.out; omega, by go_num, by rw [HA1.out, HV.out], hb5⟩
                        case measure => have := HK.out; simp [intOf]; omega
                      · have HV : Hid (a1 = true) := hide (by rw [HU2.out]; rfl)
                        go_wp2_with fail
                        go_roundw
                        case rel => exact ⟨k + 1, by have := HK.out; omega, by go_num, by rw [HA1.out, HV.out], hbr⟩
                        case measure => have := HK.out; simp [intOf]; omega
                    · obtain rfl : k = y.needs.length := by omega
                      have HNA : Hid (((y.needs.take y.needs.length).any fun n => findsB l n false) = y.needs.any fun n => findsB l n false) := hide (by rw [List.take_length])
                      generalize ((y.needs.take y.needs.length).any fun n => findsB l n false) = a0 at *
                      have HBR2 := hide hbr
                      clear hbr hk hlt hwr bYr
                      go_wp2_with fail
                      obtain ⟨wg, rfl⟩ : ∃ wg, wg = wr := ⟨_, rfl⟩
                      go_loopw [15, 17] (fun bb j wr => ∃ k : Nat, k ≤ y.bars.length ∧ j = .int .i64 k ∧ bb = .bool (a0 || (y.bars.take k).any fun n => findsB l n true) ∧ Below w3.heap.size w3 wr) (fun _ j _ => y.bars.length - (intOf j).toNat)
                      case atStart => exact ⟨0, by omega, rfl, by simp, HBR2.out⟩
                      case round =>
                        obtain ⟨k, hk, rfl, rfl, hbr⟩ := hrel
                        have bYr := HBY3.out.later hbr
                        have y4 := bYr.cell 4 rfl
                        have hwr := below2 HW3.out hbr
                        by_cases hlt : k < y.bars.length
                        · have HK := hide hlt
                          have hltI : (k : Int) < y.bars.length := by omega
                          obtain ⟨a', m', e', -, -, hc⟩ := HBI3.out
                          cases e'
                          obtain ⟨b, o, rfl, hckw⟩ := hc k hlt
                          have ck := keep hbr hckw
                          have HU := hide (any_up (p := fun n => findsB l n true) (d := 0) hlt)
                          generalize hA1 : ((y.bars.take (k + 1)).any fun n => findsB l n true) = a1 at HU
                          have HA1 := hide hA1
                          generalize ((y.bars.take k).any fun n => findsB l n true) = b0 at *
                          generalize y.bars.getD k 0 = m at ck hckw HU
                          have HCF := hide (HFT.out m wr hwr)
                          have HU2 : Hid (a1 = (b0 || findsB l m true)) := HU
                          generalize findsB l m true = fb at HCF HU2
                          obtain ⟨s0, HS0⟩ : ∃ s0, Hid (s0 = (a0 || b0)) := ⟨_, hide rfl⟩
                          rw [← HS0.out]
                          have HU3 : Hid ((a0 || a1) = (s0 || fb)) := hide (by rw [HU2.out, HS0.out, Bool.or_assoc])
                          clear hc hckw hA1 HU
                          cases s0
                          · go_wp2_with fail
                            refine HCF.out.mono ?_
                            rintro e w4 ⟨rfl, hb4⟩
                            have hb5 := below2 hbr hb4
                            have HV : Hid ((a0 || a1) = fb) := hide (by rw [HU3.out]; rfl)
                            go_wp2_with fail
                            go_roundw
                            case rel => exact ⟨k + 1, by have := HK.out; omega, by go_num, by rw [HA1.out, HV.out], hb5⟩
                            case measure => have := HK.out; simp [intOf]; omega
                          · have HV : Hid ((a0 || a1) = true) := hide (by rw [HU3.out]; rfl)
                            go_wp2_with fail
                            go_roundw
                            case rel => exact ⟨k + 1, by have := HK.out; omega, by go_num, by rw [HA1.out, HV.out], hbr⟩
                            case measure => have := HK.out; simp [intOf]; omega
                        · obtain rfl : k = y.bars.length := by omega
                          have HPK : Hid (pk = (a0 || ((y.bars.take y.bars.length).any fun n => findsB l n true))) := hide (by rw [HE3.out, HNA.out, List.take_length])
                          rw [← HPK.out]
                          have hbz : Below X3.heap.size X3 wr := below2 HBX.out hbr
                          clear bYr
                          cases pk
                          · have HF : Hid (R = false) := hide (by rw [HR2.out]; exact HN1.out rfl)
                            go_wp2_with fail
                            go_ret
                            exact ⟨by rw [HF.out]; rfl, hwr⟩
                          · have HM2 := hide (HY1.out rfl)
                            go_wp2_with fail
                            go_roundw
                            case rel => exact ⟨i + 1, by have := HI.out; omega, by go_num, HM2, hbz⟩
                            case measure => have := HI.out; simp [intOf]; omega
              · have dg : (y.gives == xs) = false := by simpa using hg
                have dgn : (y.gives != xs) = true := by simpa using hg
                have HM2 := hide (HY1.out (by rw [HE1.out, decide_eq_false hg]; rfl))
                clear hg HE1
                go_wp2_with fail
                generalize hY1 : World.alloc wr _ = Y1
                have zY1 : Y1.heap.size = wr.heap.size + 1 := by rw [← hY1]; simp
                have bY1 : Below wr.heap.size wr Y1 := by rw [← hY1]; exact bal wr _
                have bY : Blk Y1 (wr.heap.size) (clauseC y (.slice na y.needs.length nn) (.slice ba y.bars.length bn)) 67 := by rw [← hY1]; exact Blk.newA wr _ (by first | rfl | simp)
                have Yb := bY1
                have Yz := zY1
                clear hY1 zY1 bY1
                have hbY := below2 hbr Yb
                clear Yb Yz
                go_roundw
                case rel => exact ⟨i + 1, by have := HI.out; omega, by go_num, HM2, hbY⟩
                case measure => have := HI.out; simp [intOf]; omega
            · obtain rfl : i = c.clauses.length := by omega
              have HF : Hid (R = true) := hide (by rw [HR2.out]; exact HM.out)
              go_wp2_with fail
              go_ret
              exact ⟨by rw [HF.out]; rfl, hwr⟩
    · have dc : (xc == -1) = false := by simpa using hxc
      have dcn : (xc != -1) = true := by simpa using hxc
      have HF : Hid (R = false) := hide (by rw [HR.out, decide_eq_true hxf, decide_eq_false hxc]; rfl)
      clear hxf hxc HR
      go_enter Tryz.func55, Tryz.ntmps55
      go_wp2_with fail
      generalize hX1 : World.alloc w _ = X1
      have zX1 : X1.heap.size = w.heap.size + 1 := by rw [← hX1]; simp
      have bX1 : Below w.heap.size w X1 := by rw [← hX1]; exact bal w _
      have bC_1 : Blk X1 (w.heap.size) [.slice ca c.clauses.length cn, .slice ra c.repeals.length rn, .slice fa c.facts.length fn] 30 := by rw [← hX1]; exact Blk.newA w _ (by first | rfl | simp)
      generalize hX2 : World.alloc X1 _ = X2
      have zX2 : X2.heap.size = w.heap.size + 1 + 1 := by rw [← hX2]; simp [zX1]
      have bX2 : Below X1.heap.size X1 X2 := by rw [← hX2]; exact bal X1 _
      have bQ_2 : Blk X2 (w.heap.size + 1) (queryC q) 33 := by rw [← hX2, ← zX1]; exact Blk.newA X1 _ (by first | rfl | simp)
      have bC_2 := bC_1.later bX2
      generalize hX3 : World.alloc X2 _ = X3
      have zX3 : X3.heap.size = w.heap.size + 1 + 1 + 1 := by rw [← hX3]; simp [zX2]
      have bX3 : Below X2.heap.size X2 X3 := by rw [← hX3]; exact bal X2 _
      have bX : Blk X3 (w.heap.size + 1 + 1) [.int .i64 xs, .bool false, .int .i64 xf, .int .i64 xc] 62 := by rw [← hX3, ← zX2]; exact Blk.newA X2 _ (by first | rfl | simp)
      have bC := bC_2.later bX3
      have bQ := bQ_2.later bX3
      have Xb := below2 (below2 (bX1) bX2) bX3
      have Xz := zX3
      clear hX1 zX1 bX1 hX2 zX2 bX2 hX3 zX3 bX3 bC_1 bC_2 bQ_2
      go_ret
      exact ⟨by rw [HF.out]; rfl, Xb⟩
  · have df : (xf == -1) = false := by simpa using hxf
    have dfn : (xf != -1) = true := by simpa using hxf
    have HF : Hid (R = false) := hide (by rw [HR.out, decide_eq_false hxf]; rfl)
    clear hxf HR
    go_enter Tryz.func55, Tryz.ntmps55
    go_wp2_with fail
    generalize hX1 : World.alloc w _ = X1
    have zX1 : X1.heap.size = w.heap.size + 1 := by rw [← hX1]; simp
    have bX1 : Below w.heap.size w X1 := by rw [← hX1]; exact bal w _
    have bC_1 : Blk X1 (w.heap.size) [.slice ca c.clauses.length cn, .slice ra c.repeals.length rn, .slice fa c.facts.length fn] 30 := by rw [← hX1]; exact Blk.newA w _ (by first | rfl | simp)
    generalize hX2 : World.alloc X1 _ = X2
    have zX2 : X2.heap.size = w.heap.size + 1 + 1 := by rw [← hX2]; simp [zX1]
    have bX2 : Below X1.heap.size X1 X2 := by rw [← hX2]; exact bal X1 _
    have bQ_2 : Blk X2 (w.heap.size + 1) (queryC q) 33 := by rw [← hX2, ← zX1]; exact Blk.newA X1 _ (by first | rfl | simp)
    have bC_2 := bC_1.later bX2
    generalize hX3 : World.alloc X2 _ = X3
    have zX3 : X3.heap.size = w.heap.size + 1 + 1 + 1 := by rw [← hX3]; simp [zX2]
    have bX3 : Below X2.heap.size X2 X3 := by rw [← hX3]; exact bal X2 _
    have bX : Blk X3 (w.heap.size + 1 + 1) [.int .i64 xs, .bool false, .int .i64 xf, .int .i64 xc] 62 := by rw [← hX3, ← zX2]; exact Blk.newA X2 _ (by first | rfl | simp)
    have bC := bC_2.later bX3
    have bQ := bQ_2.later bX3
    have Xb := below2 (below2 (bX1) bX2) bX3
    have Xz := zX3
    clear hX1 zX1 bX1 hX2 zX2 bX2 hX3 zX3 bX3 bC_1 bC_2 bQ_2
    go_ret
    exact ⟨by rw [HF.out]; rfl, Xb⟩
end Go.Proofs.YtdjldidfnddpmaaGreat
/- Walks of the reference of chapter 31: right, Check. Conditions: how the laws lie in memory. -/
namespace Go.Proofs.YtdjldidfnddpmaaGreat
open Go.RowKit
theorem rightr_any (c : CodeD) (q : QueryD) (x : FindD) (l : List FindD) (cv rv fv lv : Value) (w : World) (h : CodeIn w.cell? cv rv fv c) (hl : FindsIn w.cell? lv l) :
    Calls Tryz.prog 55 #[codeV cv rv fv, queryV q, findV x, lv] w (Ret (.bool (rightR c q x l)) w) := by
  obtain ⟨xs, xh, xf, xc⟩ := x
  cases xh
  · have e : rightR c q ⟨xs, false, xf, xc⟩ l = (decide (xf = -1) && decide (xc = -1) && (List.range c.facts.length).all (noFact c q xs) && (List.range c.clauses.length).all (noCl c q xs l)) := by
      unfold rightR
      simp only [Bool.false_and, Bool.false_eq_true, if_false]
      rfl
    rw [e]
    exact rightC_any c q xs xf xc l cv rv fv lv w h hl
  · by_cases hc : xc = -1
    · subst hc
      have e : rightR c q ⟨xs, true, xf, -1⟩ l = (inB xf 0 (c.facts.length - 1) && statesB (c.facts.getD xf.toNat fact0) q && saysB c xs xf.toNat) := by
        unfold rightR
        simp only [Bool.true_and, decide_true, if_true]
      rw [e]
      exact rightA_any c q xs xf cv rv fv lv w h
    · have e : rightR c q ⟨xs, true, xf, xc⟩ l = (decide (xf = -1) && inB xc 0 (c.clauses.length - 1) && rulesB c xc.toNat q && decide ((c.clauses.getD xc.toNat clause0).gives = xs) && ((c.clauses.getD xc.toNat clause0).needs.all fun n => findsB l n true) && (c.clauses.getD xc.toNat clause0).bars.all fun n => findsB l n false) := by
        unfold rightR
        simp only [Bool.true_and, decide_eq_false hc, Bool.false_eq_true, if_false, if_true]
      rw [e]
      exact rightB_any c q xs xf xc l cv rv fv lv w h hl hc
def ascR (l : List FindD) (i : Nat) : Bool := inB (l.getD i find0).says 0 19 && (decide (i = 0) || decide ((l.getD (i - 1) find0).says < (l.getD i find0).says))
theorem lastr_get (l : List FindD) : l.getLast?.getD find0 = l.getD (l.length - 1) find0 := by
  rw [List.getLast?_eq_getElem?, List.getD_eq_getElem?_getD]
set_option maxRecDepth 100000 in
set_option maxHeartbeats 4000000 in
theorem checkr_any (c : CodeD) (q : QueryD) (h : Bool) (l : List FindD) (cv rv fv lv : Value) (w : World) (hc : CodeIn w.cell? cv rv fv c) (hl : FindsIn w.cell? lv l) :
    Calls Tryz.prog 22 #[codeV cv rv fv, queryV q, .bool h, lv] w (Ret (.bool (checkB c q h l)) w) := by
  have HL := hide hl
  have HVA := hide (fun W (hb : Below w.heap.size w W) => validr_any c cv rv fv W (hc.below hb))
  have HAS := hide (fun W => asksr_any q W)
  have HRG := hide (fun x W (hb : Below w.heap.size w W) => rightr_any c q x l cv rv fv lv W (hc.below hb) (hl.below hb))
  obtain ⟨la, ln, rfl, hl1, hl2, -⟩ := id hl
  obtain ⟨⟨ca, cn, rfl, -, -, -⟩, ⟨ra, rn, rfl, -, -, -⟩, ⟨fa, fn, rfl, -, -, -⟩⟩ := id hc
  have hlI : (l.length : Int) ≤ 9223372036854775807 := by omega
  have HR0 := hide (check_same c q h l)
  have HR : Hid (checkB c q h l = (validC c && asksB q && decide (0 < l.length) && decide (l.length ≤ 20) && (List.range l.length).all (ascR l) && (l.all fun x => rightR c q x l) && decide ((l.getD (l.length - 1) find0).says = q.says) && ((l.getD (l.length - 1) find0).holds == h))) := hide (by
    rw [← HR0.out]
    unfold checkR
    rw [lastr_get]; rfl)
  have HAN := hide (fun k (hk : k < l.length) h2 => allr_no (p := ascR l) hk h2)
  have HAY := hide (fun k h1 h2 => allr_succ (p := ascR l) (k := k) h1 h2)
  have HAE := hide (fun k => show ascR l k = (inB (l.getD k find0).says 0 19 && (decide (k = 0) || decide ((l.getD (k - 1) find0).says < (l.getD k find0).says))) from rfl)
  have HXN := hide (fun k (hk : k < l.length) h2 => all_no' (l := l) (p := fun x => rightR c q x l) (d := find0) hk h2)
  have HXY := hide (fun k (hk : k < l.length) h1 h2 => all_succ' (l := l) (p := fun x => rightR c q x l) (d := find0) hk h1 h2)
  have HXT : Hid ((l.take l.length).all (fun x => rightR c q x l) = l.all fun x => rightR c q x l) := hide (by rw [List.take_length])
  generalize checkB c q h l = R at HR ⊢
  generalize ascR l = pA at *
  generalize (l.all fun x => rightR c q x l) = AX at *
  generalize validC c = vc at *
  generalize asksB q = ac at *
  clear hc hl HR0 hl1 hl2
  by_cases h0 : l.length = 0
  · have e0 : ((l.length : Int) == 0) = true := by simp [h0]
    have HF : Hid (R = false) := hide (by rw [HR.out, h0]; simp)
    clear h0
    go_enter Tryz.func22, Tryz.ntmps22
    go_wp2_with fail
    generalize hX1 : World.alloc w _ = X1
    have zX1 : X1.heap.size = w.heap.size + 1 := by rw [← hX1]; simp
    have bX1 : Below w.heap.size w X1 := by rw [← hX1]; exact bal w _
    have bC_1 : Blk X1 (w.heap.size) [.slice ca c.clauses.length cn, .slice ra c.repeals.length rn, .slice fa c.facts.length fn] 30 := by rw [← hX1]; exact Blk.newA w _ (by first | rfl | simp)
    generalize hX2 : World.alloc X1 _ = X2
    have zX2 : X2.heap.size = w.heap.size + 1 + 1 := by rw [← hX2]; simp [zX1]
    have bX2 : Below X1.heap.size X1 X2 := by rw [← hX2]; exact bal X1 _
    have bQ : Blk X2 (w.heap.size + 1) (queryC q) 33 := by rw [← hX2, ← zX1]; exact Blk.newA X1 _ (by first | rfl | simp)
    have bC := bC_1.later bX2
    have Xb := below2 (bX1) bX2
    have Xz := zX2
    clear hX1 zX1 bX1 hX2 zX2 bX2 bC_1
    have c0 := bC.cell 0 rfl
    have c1 := bC.cell 1 rfl
    have c2 := bC.cell 2 rfl
    go_wp2_with fail
    refine (HVA.out _ Xb).mono ?_
    rintro e w1 ⟨rfl, hb1⟩
    have hw1 := below2 Xb hb1
    replace bC := bC.later hb1
    replace bQ := bQ.later hb1
    clear c0 c1 c2 hb1 Xb Xz
    cases vc
    · go_wp2_with fail
      go_ret
      exact ⟨by rw [HF.out]; rfl, hw1⟩
    · have q0 := bQ.cell 0 rfl
      have q1 := bQ.cell 1 rfl
      have q2 := bQ.cell 2 rfl
      have q3 := bQ.cell 3 rfl
      go_wp2_with fail
      refine (HAS.out _).mono ?_
      rintro e w2 ⟨rfl, hb2⟩
      have hw2 := below2 hw1 hb2
      replace bC := bC.later hb2
      replace bQ := bQ.later hb2
      clear q0 q1 q2 q3 hb2
      cases ac
      · go_wp2_with fail
        go_ret
        exact ⟨by rw [HF.out]; rfl, hw2⟩
      · go_wp2_with fail
        go_ret
        exact ⟨by rw [HF.out]; rfl, hw2⟩
  · have e0 : ((l.length : Int) == 0) = false := by simpa using h0
    by_cases h20 : l.length ≤ 20
    · have e20 : decide ((20 : Int) < l.length) = false := decide_eq_false (by omega)
      have e20' : decide (20 < l.length) = false := decide_eq_false (by omega)
      have hlp : 0 < l.length := by omega
      have HR1 : Hid (R = (vc && ac && (List.range l.length).all pA && AX && decide ((l.getD (l.length - 1) find0).says = q.says) && ((l.getD (l.length - 1) find0).holds == h))) := hide (by rw [HR.out, decide_eq_true hlp, decide_eq_true h20, Bool.and_true, Bool.and_true])
      clear h0 HR
      go_enter Tryz.func22, Tryz.ntmps22
      go_wp2_with fail
      generalize hX1 : World.alloc w _ = X1
      have zX1 : X1.heap.size = w.heap.size + 1 := by rw [← hX1]; simp
      have bX1 : Below w.heap.size w X1 := by rw [← hX1]; exact bal w _
      have bC_1 : Blk X1 (w.heap.size) [.slice ca c.clauses.length cn, .slice ra c.repeals.length rn, .slice fa c.facts.length fn] 30 := by rw [← hX1]; exact Blk.newA w _ (by first | rfl | simp)
      generalize hX2 : World.alloc X1 _ = X2
      have zX2 : X2.heap.size = w.heap.size + 1 + 1 := by rw [← hX2]; simp [zX1]
      have bX2 : Below X1.heap.size X1 X2 := by rw [← hX2]; exact bal X1 _
      have bQ : Blk X2 (w.heap.size + 1) (queryC q) 33 := by rw [← hX2, ← zX1]; exact Blk.newA X1 _ (by first | rfl | simp)
      have bC := bC_1.later bX2
      have Xb := below2 (bX1) bX2
      have Xz := zX2
      clear hX1 zX1 bX1 hX2 zX2 bX2 bC_1
      have c0 := bC.cell 0 rfl
      have c1 := bC.cell 1 rfl
      have c2 := bC.cell 2 rfl
      go_wp2_with fail
      refine (HVA.out _ Xb).mono ?_
      rintro e w1 ⟨rfl, hb1⟩
      have hw1 := below2 Xb hb1
      replace bC := bC.later hb1
      replace bQ := bQ.later hb1
      clear c0 c1 c2 hb1 Xb Xz
      cases vc
      · have HF : Hid (R = false) := hide (by rw [HR1.out]; rfl)
        go_wp2_with fail
        go_ret
        exact ⟨by rw [HF.out]; rfl, hw1⟩
      · have q0 := bQ.cell 0 rfl
        have q1 := bQ.cell 1 rfl
        have q2 := bQ.cell 2 rfl
        have q3 := bQ.cell 3 rfl
        go_wp2_with fail
        refine (HAS.out _).mono ?_
        rintro e w2 ⟨rfl, hb2⟩
        have hw2 := below2 hw1 hb2
        replace bC := bC.later hb2
        replace bQ := bQ.later hb2
        clear q0 q1 q2 q3 hb2
        cases ac
        · have HF : Hid (R = false) := hide (by rw [HR1.out]; rfl)
          go_wp2_with fail
          go_ret
          exact ⟨by rw [HF.out]; rfl, hw2⟩
        · have HR2 : Hid (R = ((List.range l.length).all pA && AX && decide ((l.getD (l.length - 1) find0).says = q.says) && ((l.getD (l.length - 1) find0).holds == h))) := hide (by rw [HR1.out]; rfl)
          clear HR1
          go_wp2_with fail
          go_loopw [9] (fun i wr => ∃ k : Nat, k ≤ l.length ∧ i = .int .i64 k ∧ Hid ((List.range k).all pA = true) ∧ Below w2.heap.size w2 wr) (fun i _ => l.length - (intOf i).toNat)
          case atStart => exact ⟨0, by omega, rfl, hide rfl, Below.refl _ _⟩
          case round =>
            obtain ⟨k, hk, rfl, HM, hbr⟩ := hrel
            have hwr := below2 hw2 hbr
            by_cases hlt : k < l.length
            · have HK := hide hlt
              have hltI : (k : Int) < l.length := by omega
              obtain ⟨b, o, e, hck⟩ := (HL.out.below hwr).cell hlt
              cases e
              have HTK := hide (HAE.out k)
              have HPV : Hid (∀ j, k = j + 1 → wr.cell? ⟨b, o + j * 4, none⟩ = some (.int .i64 (l.getD j find0).says) ∧ (l.getD (k - 1) find0).says = (l.getD j find0).says) := hide (fun j e => by
                subst e
                obtain ⟨b2, o2, e2, h2⟩ := (HL.out.below hwr).cell (i := j) (by omega)
                cases e2
                exact ⟨h2 0 _ rfl, rfl⟩)
              have HN := hide (HAN.out k hlt)
              have HY := hide (HAY.out k HM.out)
              generalize pA k = pk at HTK HN HY
              have hckw : wr.cell? ⟨b, o + k * 4, none⟩ = some (.int .i64 (l.getD k find0).says) := hck 0 _ rfl
              generalize (l.getD k find0).says = x at hckw HTK
              generalize (l.getD (k - 1) find0).says = pv at HTK HPV
              have HIN := hide (fun W => inr_any x 0 19 W)
              generalize inB x 0 19 = ib at HIN HTK
              have ck := bwc hckw
              clear hck hckw
              cases ib
              · have HF : Hid (R = false) := hide (by rw [HR2.out, HN.out (by rw [HTK.out]; rfl)]; rfl)
                clear HPV
                go_wp2_with fail
                refine wp_region_bw (by kernel_rfl) (by kernel_rfl) ?_
                repeat (go_big_quiet_step ((go_at_call 42; exact quiet (HIN.out _))))
                refine wpQuiet_nil ?_
                rintro _ ⟨i, rfl⟩
                have hwf := below2 hwr i.h
                go_wp2_with fail
                go_ret
                exact ⟨by rw [HF.out]; rfl, hwf⟩
              · rcases Nat.eq_zero_or_pos k with hk0 | hk0
                · have hk1 : decide ((0 : Int) < k) = false := decide_eq_false (by omega)
                  have hk2 : decide (0 < k) = false := decide_eq_false (by omega)
                  have HY2 := hide (HY.out (by rw [HTK.out, hk0]; rfl))
                  clear HPV hk0
                  go_wp2_with fail
                  refine wp_region_bw (by kernel_rfl) (by kernel_rfl) ?_
                  repeat (go_big_quiet_step ((go_at_call 42; exact quiet (HIN.out _))))
                  refine wpQuiet_nil ?_
                  rintro _ ⟨i, rfl⟩
                  go_wp2_with fail
                  go_roundw
                  case rel => exact ⟨k + 1, by have := HK.out; omega, by go_num, HY2, below2 hbr i.h⟩
                  case measure => have := HK.out; simp [intOf]; omega
                · obtain ⟨j, ej⟩ : ∃ j, k = j + 1 := ⟨k - 1, by omega⟩
                  obtain ⟨hpc, hpe⟩ := HPV.out j ej
                  rw [← hpe] at hpc
                  have kp := bwc hpc
                  have hjl : j < l.length := by omega
                  have hjlI : (j : Int) < l.length := by omega
                  have hk1 : decide ((0 : Int) < k) = true := decide_eq_true (by omega)
                  have hk2 : decide (0 < k) = true := decide_eq_true (by omega)
                  have hkz : Hid (decide (k = 0) = false) := hide (decide_eq_false (by omega))
                  have ekj : (k : Int) - 1 = j := by omega
                  clear HPV ej hk0 hpc hpe
                  by_cases hle : x ≤ pv
                  · have d1 := decT hle
                    have HF : Hid (R = false) := hide (by rw [HR2.out, HN.out (by rw [HTK.out, hkz.out, decide_eq_false (show ¬ pv < x by omega)]; rfl)]; rfl)
                    go_wp2_with fail
                    refine wp_region_bw (by kernel_rfl) (by kernel_rfl) ?_
                    repeat (go_big_quiet_step ((go_at_call 42; exact quiet (HIN.out _))))
                    refine wpQuiet_nil ?_
                    rintro _ ⟨i, rfl⟩
                    have hwf := below2 hwr i.h
                    go_wp2_with fail
                    go_ret
                    exact ⟨by rw [HF.out]; rfl, hwf⟩
                  · have d1 := decF hle
                    have HY2 := hide (HY.out (by rw [HTK.out, hkz.out, decide_eq_true (show pv < x by omega)]; rfl))
                    clear hle
                    go_wp2_with fail
                    refine wp_region_bw (by kernel_rfl) (by kernel_rfl) ?_
                    repeat (go_big_quiet_step ((go_at_call 42; exact quiet (HIN.out _))))
                    refine wpQuiet_nil ?_
                    rintro _ ⟨i, rfl⟩
                    clear ekj
                    go_wp2_with fail
                    go_roundw
                    case rel => exact ⟨k + 1, by have := HK.out; omega, by go_num, HY2, below2 hbr i.h⟩
                    case measure => have := HK.out; simp [intOf]; omega
            · obtain rfl : k = l.length := by omega
              have HR3 : Hid (R = (AX && decide ((l.getD (l.length - 1) find0).says = q.says) && ((l.getD (l.length - 1) find0).holds == h))) := hide (by rw [HR2.out, HM.out]; rfl)
              have HBR := hide hbr
              clear hbr hk hlt hwr HR2
              go_wp2_with fail
              obtain ⟨wf, rfl⟩ : ∃ wf, wf = wr := ⟨_, rfl⟩
              go_loopw [10] (fun i wr => ∃ k : Nat, k ≤ l.length ∧ i = .int .i64 k ∧ Hid ((l.take k).all (fun x => rightR c q x l) = true) ∧ Below w2.heap.size w2 wr) (fun i _ => l.length - (intOf i).toNat)
              case atStart => exact ⟨0, by omega, rfl, hide rfl, HBR.out⟩
              case round =>
                obtain ⟨k, hk, rfl, HM, hbr⟩ := hrel
                have hwr := below2 hw2 hbr
                have bCz := bC.later hbr
                have bQz := bQ.later hbr
                by_cases hlt : k < l.length
                · have HK := hide hlt
                  have hltI : (k : Int) < l.length := by omega
                  obtain ⟨b, o, e, hck⟩ := (HL.out.below hwr).cell hlt
                  cases e
                  have HN := hide (HXN.out k hlt)
                  have HY := hide (HXY.out k hlt HM.out)
                  generalize l.getD k find0 = x at hck HN HY
                  have HRX := hide (fun W (hb : Below wr.heap.size wr W) => HRG.out x W (below2 hwr hb))
                  generalize rightR c q x l = rx at HRX HN HY
                  have k0 := bwc (show wr.cell? ⟨b, o + k * 4, none⟩ = some (.int .i64 x.says) from hck 0 _ rfl)
                  have k1 := bwc (show wr.cell? ⟨b, o + k * 4 + 1, none⟩ = some (.bool x.holds) from hck 1 _ rfl)
                  have k2 := bwc (show wr.cell? ⟨b, o + k * 4 + 2, none⟩ = some (.int .i64 x.fact) from hck 2 _ rfl)
                  have k3 := bwc (show wr.cell? ⟨b, o + k * 4 + 3, none⟩ = some (.int .i64 x.clause) from hck 3 _ rfl)
                  have d0 := bwc (bCz.cell 0 rfl)
                  have d1 := bwc (bCz.cell 1 rfl)
                  have d2 := bwc (bCz.cell 2 rfl)
                  have q0 := bwc (bQz.cell 0 rfl)
                  have q1 := bwc (bQz.cell 1 rfl)
                  have q2 := bwc (bQz.cell 2 rfl)
                  have q3 := bwc (bQz.cell 3 rfl)
                  clear hck
                  go_wp2_with fail
                  refine wp_region_bw (by kernel_rfl) (by kernel_rfl) ?_
                  repeat (go_big_quiet_step ((go_at_call 55; exact quiet (HRX.out _ (Bw.h _)))))
                  refine wpQuiet_nil ?_
                  rintro _ ⟨ix, rfl⟩
                  have hbx := below2 hbr ix.h
                  have hwx := below2 hwr ix.h
                  cases rx
                  · have HF : Hid (R = false) := hide (by rw [HR3.out, HN.out rfl]; rfl)
                    go_wp2_with fail
                    go_ret
                    exact ⟨by rw [HF.out]; rfl, hwx⟩
                  · have HM2 := hide (HY.out rfl)
                    go_wp2_with fail
                    go_roundw
                    case rel => exact ⟨k + 1, by have := HK.out; omega, by go_num, HM2, hbx⟩
                    case measure => have := HK.out; simp [intOf]; omega
                · obtain rfl : k = l.length := by omega
                  have HAX : Hid (AX = true) := hide (by rw [← HXT.out]; exact HM.out)
                  obtain ⟨n, hn⟩ : ∃ n, l.length = n + 1 := ⟨l.length - 1, by omega⟩
                  have hnl : n < l.length := by omega
                  have hnlI : (n : Int) < l.length := by omega
                  have HR4 : Hid (R = (decide ((l.getD n find0).says = q.says) && ((l.getD n find0).holds == h))) := hide (by rw [HR3.out, HAX.out, show l.length - 1 = n by omega]; rfl)
                  obtain ⟨b, o, e, hck⟩ := (HL.out.below hwr).cell hnl
                  cases e
                  generalize l.getD n find0 = x at hck HR4
                  have k0 := bwc (show wr.cell? ⟨b, o + n * 4, none⟩ = some (.int .i64 x.says) from hck 0 _ rfl)
                  have k1 := bwc (show wr.cell? ⟨b, o + n * 4 + 1, none⟩ = some (.bool x.holds) from hck 1 _ rfl)
                  have q1 := bwc (bQz.cell 1 rfl)
                  have ew : IntKind.i64.wrap ((l.length : Int) - 1) = (n : Int) := by rw [IntWalk.i64_in _ ⟨by omega, by omega⟩]; omega
                  have ew2 : (l.length : Int) - 1 = n := by omega
                  clear hck hn
                  by_cases e1 : x.says = q.says
                  · have dx : (x.says == q.says) = true := by simpa using e1
                    have HR5 : Hid (R = (x.holds == h)) := hide (by rw [HR4.out, decide_eq_true e1]; rfl)
                    clear e1
                    go_wp2_with fail
                    refine wp_region_bw (by kernel_rfl) (by kernel_rfl) ?_
                    repeat (go_big_quiet_step (fail))
                    refine wpQuiet_nil ?_
                    rintro _ ⟨ix, rfl⟩
                    have hwx := below2 hwr ix.h
                    go_wp2_with fail
                    go_ret
                    exact ⟨by rw [HR5.out]; rfl, hwx⟩
                  · have dx : (x.says == q.says) = false := by simpa using e1
                    have HF : Hid (R = false) := hide (by rw [HR4.out, decide_eq_false e1]; rfl)
                    clear e1
                    go_wp2_with fail
                    refine wp_region_bw (by kernel_rfl) (by kernel_rfl) ?_
                    repeat (go_big_quiet_step (fail))
                    refine wpQuiet_nil ?_
                    rintro _ ⟨ix, rfl⟩
                    have hwx := below2 hwr ix.h
                    go_wp2_with fail
                    go_ret
                    exact ⟨by rw [HF.out]; rfl, hwx⟩
    · have e20 : decide ((20 : Int) < l.length) = true := decide_eq_true (by omega)
      have e20' : decide (20 < l.length) = true := decide_eq_true (by omega)
      have HF : Hid (R = false) := hide (by rw [HR.out, decide_eq_false h20]; simp)
      clear h20 h0
      go_enter Tryz.func22, Tryz.ntmps22
      go_wp2_with fail
      generalize hX1 : World.alloc w _ = X1
      have zX1 : X1.heap.size = w.heap.size + 1 := by rw [← hX1]; simp
      have bX1 : Below w.heap.size w X1 := by rw [← hX1]; exact bal w _
      have bC_1 : Blk X1 (w.heap.size) [.slice ca c.clauses.length cn, .slice ra c.repeals.length rn, .slice fa c.facts.length fn] 30 := by rw [← hX1]; exact Blk.newA w _ (by first | rfl | simp)
      generalize hX2 : World.alloc X1 _ = X2
      have zX2 : X2.heap.size = w.heap.size + 1 + 1 := by rw [← hX2]; simp [zX1]
      have bX2 : Below X1.heap.size X1 X2 := by rw [← hX2]; exact bal X1 _
      have bQ : Blk X2 (w.heap.size + 1) (queryC q) 33 := by rw [← hX2, ← zX1]; exact Blk.newA X1 _ (by first | rfl | simp)
      have bC := bC_1.later bX2
      have Xb := below2 (bX1) bX2
      have Xz := zX2
      clear hX1 zX1 bX1 hX2 zX2 bX2 bC_1
      have c0 := bC.cell 0 rfl
      have c1 := bC.cell 1 rfl
      have c2 := bC.cell 2 rfl
      go_wp2_with fail
      refine (HVA.out _ Xb).mono ?_
      rintro e w1 ⟨rfl, hb1⟩
      have hw1 := below2 Xb hb1
      replace bC := bC.later hb1
      replace bQ := bQ.later hb1
      clear c0 c1 c2 hb1 Xb Xz
      cases vc
      · go_wp2_with fail
        go_ret
        exact ⟨by rw [HF.out]; rfl, hw1⟩
      · have q0 := bQ.cell 0 rfl
        have q1 := bQ.cell 1 rfl
        have q2 := bQ.cell 2 rfl
        have q3 := bQ.cell 3 rfl
        go_wp2_with fail
        refine (HAS.out _).mono ?_
        rintro e w2 ⟨rfl, hb2⟩
        have hw2 := below2 hw1 hb2
        replace bC := bC.later hb2
        replace bQ := bQ.later hb2
        clear q0 q1 q2 q3 hb2
        cases ac
        · go_wp2_with fail
          go_ret
          exact ⟨by rw [HF.out]; rfl, hw2⟩
        · go_wp2_with fail
          go_ret
          exact ⟨by rw [HF.out]; rfl, hw2⟩
end Go.Proofs.YtdjldidfnddpmaaGreat
/- Plain: what is left of laws when only what a proof leans on stays. No condition. -/
namespace Go.Proofs.YtdjldidfnddpmaaGreat
theorem uses_in {c : CodeD} {q : QueryD} {n : Int} {h : Bool} {l : List FindD} (hp : provesB c (factsF c q) (clausesF c q) n h l = true) :
    (∀ i ∈ usesF l, 0 ≤ i ∧ i.toNat ∈ factsF c q) ∧ ∀ i ∈ usesC c (clausesF c q) l, 0 ≤ i ∧ i.toNat ∈ clausesF c q := by
  obtain ⟨-, a2, -⟩ := proves_iff.1 hp
  obtain ⟨-, hU⟩ := usesF_spec l
  obtain ⟨-, hV⟩ := usesC_spec c (clausesF c q) l
  refine ⟨fun i hi => ?_, fun i hi => ?_⟩
  · obtain ⟨y, hy, hm⟩ := (hU i).1 hi
    unfold leanF at hm
    split at hm
    · rename_i h0
      rw [List.mem_singleton] at hm
      subst hm
      have := (a2 y hy).2
      unfold rightB at this
      split at this
      · rw [List.any_eq_true] at this
        obtain ⟨k, hk, h3⟩ := this
        simp only [Bool.and_eq_true, decide_eq_true_eq] at h3
        exact ⟨h0, by rw [h3.1]; simpa using hk⟩
      · split at this <;> simp only [Bool.and_eq_true, decide_eq_true_eq] at this
        · omega
        · omega
    · cases hm
  · obtain ⟨y, hy, hm⟩ := (hV i).1 hi
    unfold leanC at hm
    split at hm
    · cases hm
    · split at hm
      · rename_i h0 h1
        rw [List.mem_singleton] at hm
        subst hm
        have := (a2 y hy).2
        unfold rightB at this
        split at this
        · rename_i h2
          simp only [Bool.and_eq_true, decide_eq_true_eq] at h2
          omega
        · split at this
          · simp only [Bool.and_eq_true, List.any_eq_true, decide_eq_true_eq] at this
            obtain ⟨-, k, hk, ⟨⟨h3, -⟩, -⟩, -⟩ := this
            exact ⟨h1, by rw [h3]; simpa using hk⟩
          · simp only [Bool.and_eq_true, decide_eq_true_eq] at this
            omega
      · obtain ⟨k, hk, rfl⟩ := List.mem_map.1 hm
        exact ⟨by omega, by simpa using (List.mem_filter.1 hk).1⟩
/-- the law of what a proof leans on -/
theorem leans_law {c : CodeD} {q : QueryD} (hV : validC c = true) (hq : asksB q = true) :
    let U := usesF (decideP c q)
    let V := usesC c (clausesF c q) (decideP c q)
    validC (lessC c U V) = true ∧ answerB (lessC c U V) q = answerB c q ∧ checkB (lessC c U V) q (answerB c q) ((decideP c q).map (movedF U V)) = true ∧ AscI U ∧ AscI V ∧
    (∀ i ∈ U, 0 ≤ i ∧ i < (c.facts.length : Int)) ∧ (∀ i ∈ V, 0 ≤ i ∧ i < (c.clauses.length : Int)) ∧ (decideP c q).length ≤ 20 := by
  intro U V
  have hd := decide_proves hV hq
  simp only [checkB, Bool.and_eq_true] at hd
  obtain ⟨hUi, hVi⟩ := uses_in hd.2
  have hU := (usesF_spec (decideP c q)).1
  have hVV := (usesC_spec c (clausesF c q) (decideP c q)).1
  have hUb : ∀ i ∈ U, 0 ≤ i ∧ i < (c.facts.length : Int) := fun i hi => ⟨(hUi i hi).1, by have := (factsF_lt (hUi i hi).2).1; omega⟩
  have hVb : ∀ i ∈ V, 0 ≤ i ∧ i < (c.clauses.length : Int) := fun i hi => ⟨(hVi i hi).1, by have := (clausesF_lt (hVi i hi).2).1; omega⟩
  have hv := less_valid hV hU hVV hUb hVb
  have hck : checkB (lessC c U V) q (answerB c q) ((decideP c q).map (movedF U V)) = true := by
    simp only [checkB, Bool.and_eq_true]
    refine ⟨⟨hv, hq⟩, ?_⟩
    rw [less_facts hUi, less_clauses hVi]
    exact leans_proves hd.2
  exact ⟨hv, (check_one hck).symm, hck, hU, hVV, hUb, hVb, proves_len hd.2⟩
theorem idxI_first {n : Int} : ∀ {l : List Int} {k : Nat}, k < l.length → n ∉ l.take k → l.getD k 0 = n → idxI l n = k
  | [], _, h, _, _ => by simp at h
  | x :: l, 0, _, _, h => by
    have : x = n := by simpa using h
    simp [idxI, this]
  | x :: l, k + 1, h0, h1, h2 => by
    have hx : x ≠ n := fun e => h1 (by simp [e])
    have ih := idxI_first (l := l) (k := k) (n := n) (by simpa using h0) (fun h => h1 (by simp [h])) (by simpa [List.getD_eq_getElem?_getD] using h2)
    simp only [idxI]
    rw [if_neg hx, ih, if_neg (by omega)]; simp
theorem asc_at {l : List Int} (h : AscI l) {i : Nat} (h0 : 0 < i) (hi : i < l.length) : l.getD (i - 1) 0 < l.getD i 0 := by
  unfold AscI at h
  rw [List.pairwise_iff_getElem] at h
  have := h (i - 1) i (by omega) hi (by omega)
  simp only [List.getD_eq_getElem?_getD, List.getElem?_eq_getElem hi, List.getElem?_eq_getElem (show i - 1 < l.length by omega)]
  exact this
/-- the repeals that stay, of the first k -/
def lessR (c : CodeD) (V : List Int) (k : Nat) : List RepealD := (((c.repeals.take k).filter fun r => decide (0 ≤ idxI V r.clause)).map fun r => ⟨idxI V r.clause, r.pub, r.from_⟩)
theorem lessR_succ (c : CodeD) (V : List Int) {k : Nat} (h : k < c.repeals.length) : lessR c V (k + 1) = if 0 ≤ idxI V (c.repeals.getD k repeal0).clause then lessR c V k ++ [⟨idxI V (c.repeals.getD k repeal0).clause, (c.repeals.getD k repeal0).pub, (c.repeals.getD k repeal0).from_⟩] else lessR c V k := by
  unfold lessR
  have e : c.repeals.take (k + 1) = c.repeals.take k ++ [c.repeals.getD k repeal0] := by
    rw [List.take_add_one, List.getElem?_eq_getElem h, List.getD_eq_getElem?_getD, List.getElem?_eq_getElem h]; rfl
  rw [e, List.filter_append, List.map_append]
  generalize c.repeals.getD k repeal0 = r
  by_cases h1 : 0 ≤ idxI V r.clause
  · rw [if_pos h1]; simp [h1]
  · rw [if_neg h1]; simp [h1]
theorem lessR_len (c : CodeD) (V : List Int) (k : Nat) : (lessR c V k).length ≤ k := by
  unfold lessR
  rw [List.length_map]
  exact Nat.le_trans (List.length_filter_le _ _) (by rw [List.length_take]; omega)
theorem lessR_all (c : CodeD) (U V : List Int) : lessR c V c.repeals.length = (lessC c U V).repeals := by
  unfold lessR lessC; rw [List.take_length]
end Go.Proofs.YtdjldidfnddpmaaGreat
/- Plain: what Uses names, as the reference lists it (chapter 31). No condition. -/
namespace Go.Proofs.YtdjldidfnddpmaaGreat
theorem uses_facts {c : CodeD} {q : QueryD} {n : Int} {h : Bool} {l : List FindD} (hp : provesB c (factsF c q) (clausesF c q) n h l = true) : usesF l = upTo (fun i => l.any fun x => decide (x.fact = (i : Int))) c.facts.length :=
  asc_eq _ _ (usesF_spec l).1 (upTo_asc _ _) fun m => by
    constructor
    · intro hm0
      have hin := (uses_in hp).1 m hm0
      obtain ⟨x, hx, hm⟩ := ((usesF_spec l).2 m).1 hm0
      unfold leanF at hm
      split at hm
      · rw [List.mem_singleton] at hm
        subst hm
        have := (factsF_lt hin.2).1
        exact List.mem_map.2 ⟨x.fact.toNat, List.mem_filter.2 ⟨List.mem_range.2 this, List.any_eq_true.2 ⟨x, hx, decide_eq_true (by omega)⟩⟩, by omega⟩
      · cases hm
    · intro hm
      obtain ⟨i, hi, rfl⟩ := List.mem_map.1 hm
      obtain ⟨-, h2⟩ := List.mem_filter.1 hi
      obtain ⟨x, hx, he⟩ := List.any_eq_true.1 h2
      have he := of_decide_eq_true he
      exact ((usesF_spec l).2 _).2 ⟨x, hx, by unfold leanF; rw [if_pos (by omega)]; simp [he]⟩
theorem uses_clauses {c : CodeD} {q : QueryD} {n : Int} {h : Bool} {l : List FindD} (hp : provesB c (factsF c q) (clausesF c q) n h l = true) :
    usesC c (clausesF c q) l = upTo (fun i => l.any fun x => decide (x.clause = (i : Int)) || (!x.holds && decide ((c.clauses.getD i clause0).gives = x.says) && rulesB c i q)) c.clauses.length :=
  asc_eq _ _ (usesC_spec c (clausesF c q) l).1 (upTo_asc _ _) fun m => by
    obtain ⟨-, a2, -⟩ := proves_iff.1 hp
    constructor
    · intro hm0
      have hin := (uses_in hp).2 m hm0
      obtain ⟨x, hx, hm⟩ := ((usesC_spec c (clausesF c q) l).2 m).1 hm0
      have hr := (a2 x hx).2
      have hlt := clausesF_lt hin.2
      refine List.mem_map.2 ⟨m.toNat, List.mem_filter.2 ⟨List.mem_range.2 hlt.1, List.any_eq_true.2 ⟨x, hx, ?_⟩⟩, by omega⟩
      unfold leanC at hm
      split at hm
      · cases hm
      · split at hm
        · rw [List.mem_singleton] at hm
          rw [decide_eq_true (show x.clause = ((m.toNat : Nat) : Int) by omega)]; rfl
        · rename_i h1 h2
          obtain ⟨i, hi, rfl⟩ := List.mem_map.1 hm
          have hg := (List.mem_filter.1 hi).2
          have hh : x.holds = false := by
            cases e : x.holds with
            | false => rfl
            | true =>
              exfalso
              unfold rightB at hr
              rw [e] at hr
              split at hr
              · rw [List.any_eq_true] at hr
                obtain ⟨k, -, h3⟩ := hr
                simp only [Bool.and_eq_true, decide_eq_true_eq] at h3
                omega
              · simp only [if_true, Bool.and_eq_true, List.any_eq_true, decide_eq_true_eq] at hr
                obtain ⟨-, k, -, ⟨⟨h3, -⟩, -⟩, -⟩ := hr
                omega
          rw [Int.toNat_natCast] at hlt ⊢
          rw [hh, hg, hlt.2]; simp
    · intro hm
      obtain ⟨i, hi, rfl⟩ := List.mem_map.1 hm
      obtain ⟨hil, h2⟩ := List.mem_filter.1 hi
      obtain ⟨x, hx, he⟩ := List.any_eq_true.1 h2
      have hr := (a2 x hx).2
      refine ((usesC_spec c (clausesF c q) l).2 _).2 ⟨x, hx, ?_⟩
      unfold leanC
      rw [Bool.or_eq_true] at he
      rcases he with he | he
      · have he := of_decide_eq_true he
        have hf : x.fact = -1 := by
          unfold rightB at hr
          split at hr
          · rename_i h3
            simp only [Bool.and_eq_true, decide_eq_true_eq] at h3
            omega
          · split at hr <;> simp only [Bool.and_eq_true, decide_eq_true_eq] at hr
            · exact hr.1
            · exact hr.1.1.1
        rw [if_neg (by omega), if_pos (by omega)]
        simp [he]
      · simp only [Bool.and_eq_true, Bool.not_eq_true', decide_eq_true_eq] at he
        obtain ⟨⟨hh, hg⟩, hru⟩ := he
        unfold rightB at hr
        rw [hh] at hr
        simp only [Bool.false_and, Bool.false_eq_true, if_false, Bool.and_eq_true, decide_eq_true_eq] at hr
        rw [if_neg (by omega), if_neg (by omega)]
        refine List.mem_map.2 ⟨i, List.mem_filter.2 ⟨?_, decide_eq_true hg⟩, rfl⟩
        unfold clausesF
        exact List.mem_filter.2 ⟨hil, hru⟩
end Go.Proofs.YtdjldidfnddpmaaGreat
/- The walk of the reference's Uses (chapter 31). Conditions: how the laws lie in memory. -/
namespace Go.Proofs.YtdjldidfnddpmaaGreat
open Go.RowKit
set_option maxRecDepth 100000 in
set_option maxHeartbeats 4000000 in
theorem usesr_any (c : CodeD) (q : QueryD) (l : List FindD) (cv rv fv lv : Value) (w : World) (h : CodeIn w.cell? cv rv fv c) (hl : FindsIn w.cell? lv l) : Calls Tryz.prog 20 #[codeV cv rv fv, queryV q, lv] w (Ret3 (usesFacts c q l) (usesClauses c q l) (usesErr c q l) w) := by
  have H := hide h
  have HL := hide hl
  have HK1 := hide (fun W (hb : Below w.heap.size w W) => checkr_any c q true l cv rv fv lv W (h.below hb) (hl.below hb))
  have HK2 := hide (fun W (hb : Below w.heap.size w W) => checkr_any c q false l cv rv fv lv W (h.below hb) (hl.below hb))
  obtain ⟨PF, hPF⟩ : ∃ P : Nat → Bool, (fun (i : Nat) => l.any fun x => decide (x.fact = (i : Int))) = P := ⟨_, rfl⟩
  obtain ⟨PC, hPC⟩ : ∃ P : Nat → Bool, (fun (i : Nat) => l.any fun x => decide (x.clause = (i : Int)) || (!x.holds && decide ((c.clauses.getD i clause0).gives = x.says) && rulesB c i q)) = P := ⟨_, rfl⟩
  have HPF := hide (fun i => congrFun hPF i)
  have HPC := hide (fun i => congrFun hPC i)
  have hUB : ∀ b, checkB c q b l = true → usesB c q l = true := fun b hb => by unfold usesB; cases b <;> rw [hb] <;> simp
  have HQ : Hid (∀ b, checkB c q b l = true → usesFacts c q l = upTo PF c.facts.length ∧ usesClauses c q l = upTo PC c.clauses.length ∧ usesErr c q l = 0 ∧ c.facts.length ≤ 20 ∧ c.clauses.length ≤ 20) := hide fun b hb => by
    have hu := hUB b hb
    simp only [checkB, Bool.and_eq_true] at hb
    obtain ⟨⟨hv, -⟩, hp⟩ := hb
    simp only [validC, Bool.and_eq_true, decide_eq_true_eq] at hv
    unfold usesFacts usesClauses usesErr
    rw [hu, ← hPF, ← hPC, ← uses_facts hp, ← uses_clauses hp]
    exact ⟨rfl, rfl, rfl, hv.1.1.1.2, hv.1.1.1.1.1⟩
  have HN : Hid (checkB c q true l = false → checkB c q false l = false → usesFacts c q l = [] ∧ usesClauses c q l = [] ∧ usesErr c q l = 310) := hide fun h1 h2 => by
    unfold usesFacts usesClauses usesErr usesB; rw [h1, h2]; exact ⟨rfl, rfl, rfl⟩
  have HQ1 := hide (HQ.out true)
  have HQ2 := hide (HQ.out false)
  clear hPF hPC hUB HQ
  generalize usesFacts c q l = AF at HQ1 HQ2 HN ⊢
  generalize usesClauses c q l = AC at HQ1 HQ2 HN ⊢
  generalize usesErr c q l = AE at HQ1 HQ2 HN ⊢
  generalize checkB c q true l = kb1 at HK1 HQ1 HN
  generalize checkB c q false l = kb2 at HK2 HQ2 HN
  obtain ⟨⟨ca, cn, rfl, -, -, -⟩, ⟨ra, rn, rfl, -, -, -⟩, ⟨fa, fn, rfl, hf1, hf2, -⟩⟩ := id h
  obtain ⟨la, ln, rfl, hl1, hl2, -⟩ := id hl
  have hlI : (l.length : Int) ≤ 9223372036854775807 := by omega
  clear h hl hl1 hl2 hf1 hf2
  go_enter Tryz.func20, Tryz.ntmps20
  go_wp2_with fail
  generalize hX1 : World.alloc w _ = X1
  have zX1 : X1.heap.size = w.heap.size + 1 := by rw [← hX1]; simp
  have bX1 : Below w.heap.size w X1 := by rw [← hX1]; exact bal w _
  have bC_1 : Blk X1 (w.heap.size) [.slice ca c.clauses.length cn, .slice ra c.repeals.length rn, .slice fa c.facts.length fn] 30 := by rw [← hX1]; exact Blk.newA w _ (by first | rfl | simp)
  generalize hX2 : World.alloc X1 _ = X2
  have zX2 : X2.heap.size = w.heap.size + 1 + 1 := by rw [← hX2]; simp [zX1]
  have bX2 : Below X1.heap.size X1 X2 := by rw [← hX2]; exact bal X1 _
  have bQ : Blk X2 (w.heap.size + 1) (queryC q) 33 := by rw [← hX2, ← zX1]; exact Blk.newA X1 _ (by first | rfl | simp)
  have bC := bC_1.later bX2
  have Xb := below2 (bX1) bX2
  have Xz := zX2
  clear hX1 zX1 bX1 hX2 zX2 bX2 bC_1
  have c0 := bC.cell 0 rfl
  have c1 := bC.cell 1 rfl
  have c2 := bC.cell 2 rfl
  have q0 := bQ.cell 0 rfl
  have q1 := bQ.cell 1 rfl
  have q2 := bQ.cell 2 rfl
  have q3 := bQ.cell 3 rfl
  go_wp2_with fail
  refine (HK1.out _ Xb).mono ?_
  rintro e w1 ⟨rfl, hb1⟩
  have hw1 := below2 Xb hb1
  replace bC := bC.later hb1
  replace bQ := bQ.later hb1
  clear c0 c1 c2 q0 q1 q2 q3 hb1
  cases kb1
  · have c0 := bC.cell 0 rfl
    have c1 := bC.cell 1 rfl
    have c2 := bC.cell 2 rfl
    have q0 := bQ.cell 0 rfl
    have q1 := bQ.cell 1 rfl
    have q2 := bQ.cell 2 rfl
    have q3 := bQ.cell 3 rfl
    go_wp2_with fail
    refine (HK2.out _ hw1).mono ?_
    rintro e w2 ⟨rfl, hb2⟩
    have hw2 := below2 hw1 hb2
    cases kb2
    · obtain ⟨rfl, rfl, rfl⟩ := HN.out (by first | rfl | trivial) (by first | rfl | trivial)
      go_wp2_with fail
      go_ret3
      exact ⟨_, _, rfl, IntsIn.nil _, IntsIn.nil _, hw2⟩
    · obtain ⟨rfl, rfl, rfl, hf20, hc20⟩ := HQ2.out (by first | rfl | trivial)
      clear c0 c1 c2 q0 q1 q2 q3
      have bC3 := (bC.later hb2)
      have bQ3 := (bQ.later hb2)
      have X3 := hw2
      go_wp2_with fail
      go_loopw [9, 10] (fun v i wr => ∃ (k : Nat), k ≤ c.facts.length ∧ i = .int .i64 k ∧ OwnI wr w2.heap.size v (upTo PF k) ∧ Below w2.heap.size w2 wr) (fun _ i _ => c.facts.length - (intOf i).toNat)
      case atStart => exact ⟨0, by omega, rfl, OwnI.nil _ _, Below.refl _ _⟩
      case round =>
        obtain ⟨k, hk, rfl, hown, hbr⟩ := hrel
        have g2 := (bC3.later hbr).cell 2 rfl
        by_cases hlt : k < c.facts.length
        · have HK := hide hlt
          have hltI : (k : Int) < c.facts.length := by omega
          have HT := hide (fun h => upTo_yes (p := PF) (k := k) h)
          have HU := hide (fun h => upTo_not (p := PF) (k := k) h)
          have hln := upTo_len PF k
          have HPK := hide (HPF.out k)
          obtain ⟨pa, pc, rfl⟩ := hown.form
          have HOW := hide hown
          generalize hup : upTo PF k = up at *
          generalize PF k = pk at *
          have HBR := hide hbr
          clear hown hup hbr
          go_wp2_with fail
          obtain ⟨wr0, rfl⟩ : ∃ W, W = wr := ⟨_, rfl⟩
          go_loopw [11, 12] (fun bb j wr => ∃ m : Nat, m ≤ l.length ∧ j = .int .i64 m ∧ bb = .bool ((l.take m).any fun x => decide (x.fact = (k : Int))) ∧ Below wr0.heap.size wr0 wr) (fun _ j _ => l.length - (intOf j).toNat)
          case atStart => exact ⟨0, by omega, rfl, rfl, Below.refl _ _⟩
          case round =>
            obtain ⟨m, hm, rfl, rfl, hbm⟩ := hrel
            by_cases hlm : m < l.length
            · have HM := hide hlm
              have hlmI : (m : Int) < l.length := by omega
              obtain ⟨b, o, e, hck⟩ := (HL.out.below (below2 (below2 X3 HBR.out) hbm)).cell hlm
              cases e
              have HU2 := hide (any_up (p := fun x : FindD => decide (x.fact = (k : Int))) (d := find0) hlm)
              generalize hA1 : ((l.take (m + 1)).any fun x => decide (x.fact = (k : Int))) = a1 at HU2
              have HA1 := hide hA1
              generalize ((l.take m).any fun x => decide (x.fact = (k : Int))) = a0 at *
              generalize l.getD m find0 = x at hck HU2
              have HU3 : Hid (a1 = (a0 || decide (x.fact = (k : Int)))) := HU2
              have x2 : wr.cell? ⟨b, o + m * 4 + 2, none⟩ = some (.int .i64 x.fact) := hck 2 _ rfl
              clear hck hA1 HU2
              cases a0
              · by_cases hx : x.fact = k
                · have dx : (x.fact == (k : Int)) = true := by simpa using hx
                  have HV : Hid (a1 = true) := hide (by rw [HU3.out, decide_eq_true hx]; rfl)
                  clear hx
                  go_wp2_with fail
                  go_roundw
                  case rel => exact ⟨m + 1, by have := HM.out; omega, by go_num, by rw [HA1.out, HV.out], hbm⟩
                  case measure => have := HM.out; simp [intOf]; omega
                · have dx : (x.fact == (k : Int)) = false := by simpa using hx
                  have HV : Hid (a1 = false) := hide (by rw [HU3.out, decide_eq_false hx]; rfl)
                  clear hx
                  go_wp2_with fail
                  go_roundw
                  case rel => exact ⟨m + 1, by have := HM.out; omega, by go_num, by rw [HA1.out, HV.out], hbm⟩
                  case measure => have := HM.out; simp [intOf]; omega
              · have HV : Hid (a1 = true) := hide (by rw [HU3.out]; rfl)
                go_wp2_with fail
                go_roundw
                case rel => exact ⟨m + 1, by have := HM.out; omega, by go_num, by rw [HA1.out, HV.out], hbm⟩
                case measure => have := HM.out; simp [intOf]; omega
            · obtain rfl : m = l.length := by omega
              have HPE : Hid (((l.take l.length).any fun x => decide (x.fact = (k : Int))) = pk) := hide (by rw [List.take_length]; exact HPK.out)
              rw [HPE.out]
              have own4 := HOW.out.later hbm
              have B4 := below2 HBR.out hbm
              have hs4 := B4.size
              cases pk
              · have HU2 := hide (HU.out (by first | rfl | trivial))
                go_wp2_with fail
                go_roundw
                case rel => exact ⟨k + 1, by have := HK.out; omega, by go_num, by rw [← HU2.out]; exact own4, B4⟩
                case measure => have := HK.out; simp [intOf]; omega
              · have HT2 := hide (HT.out (by first | rfl | trivial))
                go_wp2_with (at_builtin; refine app_int rfl _ _ rfl w2.heap.size _ _ rfl own4 (k : Int) rfl (by omega) hs4 ?_; intro v2 w2 hO2 hb2 hs2)
                have HO2 := hide hO2
                have B5 := B4.trans hb2
                clear hO2 hb2
                go_roundw
                case rel => exact ⟨k + 1, by have := HK.out; omega, by go_num, by rw [← HT2.out]; exact HO2.out, B5⟩
                case measure => have := HK.out; simp [intOf]; omega
        · obtain rfl : k = c.facts.length := by omega
          obtain ⟨pa, pc, rfl⟩ := hown.form
          have HOW := hide hown
          have Xr := below2 X3 hbr
          have bC4 := bC3.later hbr
          have bQ4 := bQ3.later hbr
          generalize (upTo PF c.facts.length).length = pl at *
          clear hown
          go_wp2_with fail
          obtain ⟨wf, rfl⟩ : ∃ wf, wf = wr := ⟨_, rfl⟩
          go_loopw [13, 14] (fun v i wr => ∃ (k : Nat), k ≤ c.clauses.length ∧ i = .int .i64 k ∧ OwnI wr wf.heap.size v (upTo PC k) ∧ Below wf.heap.size wf wr) (fun _ i _ => c.clauses.length - (intOf i).toNat)
          case atStart => exact ⟨0, by omega, rfl, OwnI.nil _ _, Below.refl _ _⟩
          case round =>
            obtain ⟨k, hk, rfl, hown, hbz⟩ := hrel
            have bCz := bC4.later hbz
            have bQz := bQ4.later hbz
            have g0 := bCz.cell 0 rfl
            by_cases hlt : k < c.clauses.length
            · have HK := hide hlt
              have hltI : (k : Int) < c.clauses.length := by omega
              have Xz := below2 Xr hbz
              have HT := hide (fun h => upTo_yes (p := PC) (k := k) h)
              have HU := hide (fun h => upTo_not (p := PC) (k := k) h)
              have hln := upTo_len PC k
              have HPK := hide (HPC.out k)
              obtain ⟨a', n', e', -, -, hcc⟩ := (H.out.below Xz).cl
              cases e'
              obtain ⟨kb, ko, nv, bv, rfl, -, -, -, -, -, k5, -, -⟩ := hcc k hlt
              have HCL := hide (fun W (hb : Below wr.heap.size wr W) => clauser_any c k q _ _ _ W (H.out.below (below2 Xz hb)) hlt)
              generalize rulesB c k q = rb at HPK HCL
              generalize (c.clauses.getD k clause0).gives = gv at HPK k5
              obtain ⟨pa2, pc2, rfl⟩ := hown.form
              have HOW2 := hide hown
              generalize hup : upTo PC k = up at *
              generalize PC k = pk at *
              have HBZ := hide hbz
              clear hown hup hcc hbz
              go_wp2_with fail
              obtain ⟨wr0, rfl⟩ : ∃ W, W = wr := ⟨_, rfl⟩
              go_loopw [15, 16] (fun bb j wr => ∃ m : Nat, m ≤ l.length ∧ j = .int .i64 m ∧ bb = .bool ((l.take m).any fun x => decide (x.clause = (k : Int)) || (!x.holds && decide (gv = x.says) && rb)) ∧ Below wr0.heap.size wr0 wr) (fun _ j _ => l.length - (intOf j).toNat)
              case atStart => exact ⟨0, by omega, rfl, rfl, Below.refl _ _⟩
              case round =>
                obtain ⟨m, hm, rfl, rfl, hbm⟩ := hrel
                by_cases hlm : m < l.length
                · have HM := hide hlm
                  have hlmI : (m : Int) < l.length := by omega
                  obtain ⟨b, o, e, hck⟩ := (HL.out.below (below2 Xz hbm)).cell hlm
                  cases e
                  have HU2 := hide (any_up (p := fun x : FindD => decide (x.clause = (k : Int)) || (!x.holds && decide (gv = x.says) && rb)) (d := find0) hlm)
                  generalize hA1 : ((l.take (m + 1)).any fun x => decide (x.clause = (k : Int)) || (!x.holds && decide (gv = x.says) && rb)) = a1 at HU2
                  have HA1 := hide hA1
                  generalize ((l.take m).any fun x => decide (x.clause = (k : Int)) || (!x.holds && decide (gv = x.says) && rb)) = a0 at *
                  generalize l.getD m find0 = x at hck HU2
                  have HU3 : Hid (a1 = (a0 || (decide (x.clause = (k : Int)) || (!x.holds && decide (gv = x.says) && rb)))) := HU2
                  have x0 := bwc (show wr.cell? ⟨b, o + m * 4, none⟩ = some (.int .i64 x.says) from hck 0 _ rfl)
                  have x1 := bwc (show wr.cell? ⟨b, o + m * 4 + 1, none⟩ = some (.bool x.holds) from hck 1 _ rfl)
                  have x3 := bwc (show wr.cell? ⟨b, o + m * 4 + 3, none⟩ = some (.int .i64 x.clause) from hck 3 _ rfl)
                  have gk := bwc (keep hbm k5)
                  have d0 := bwc ((bCz.later hbm).cell 0 rfl)
                  have d1 := bwc ((bCz.later hbm).cell 1 rfl)
                  have d2 := bwc ((bCz.later hbm).cell 2 rfl)
                  have q0 := bwc ((bQz.later hbm).cell 0 rfl)
                  have q1 := bwc ((bQz.later hbm).cell 1 rfl)
                  have q2 := bwc ((bQz.later hbm).cell 2 rfl)
                  have q3 := bwc ((bQz.later hbm).cell 3 rfl)
                  have HCM := hide (fun W (hb : Below wr.heap.size wr W) => HCL.out W (below2 hbm hb))
                  generalize x.holds = xh at *
                  clear hck hA1 HU2
                  cases a0
                  · by_cases hx : x.clause = k
                    · have dx : (x.clause == (k : Int)) = true := by simpa using hx
                      have HV : Hid (a1 = true) := hide (by rw [HU3.out, decide_eq_true hx]; rfl)
                      clear hx
                      go_wp2_with fail
                      refine wp_region_bw (by kernel_rfl) (by kernel_rfl) ?_
                      repeat (go_big_quiet_step (fail))
                      refine wpQuiet_nil ?_
                      rintro _ ⟨ix, rfl⟩
                      have hbx := below2 hbm ix.h
                      go_wp2_with fail
                      go_roundw
                      case rel => exact ⟨m + 1, by have := HM.out; omega, by go_num, by rw [HA1.out, HV.out], hbx⟩
                      case measure => have := HM.out; simp [intOf]; omega
                    · have dx : (x.clause == (k : Int)) = false := by simpa using hx
                      have HU4 : Hid (a1 = (!xh && decide (gv = x.says) && rb)) := hide (by rw [HU3.out, decide_eq_false hx]; rfl)
                      clear hx
                      cases xh
                      · by_cases hg : gv = x.says
                        · have dg : (gv == x.says) = true := by simpa using hg
                          have HV : Hid (a1 = rb) := hide (by rw [HU4.out, decide_eq_true hg]; rfl)
                          clear hg
                          go_wp2_with fail
                          refine wp_region_bw (by kernel_rfl) (by kernel_rfl) ?_
                          repeat (go_big_quiet_step ((go_at_call 54; exact quiet (HCM.out _ (Bw.h _)))))
                          refine wpQuiet_nil ?_
                          rintro _ ⟨ix, rfl⟩
                          have hbx := below2 hbm ix.h
                          go_wp2_with fail
                          go_roundw
                          case rel => exact ⟨m + 1, by have := HM.out; omega, by go_num, by rw [HA1.out, HV.out], hbx⟩
                          case measure => have := HM.out; simp [intOf]; omega
                        · have dg : (gv == x.says) = false := by simpa using hg
                          have HV : Hid (a1 = false) := hide (by rw [HU4.out, decide_eq_false hg]; rfl)
                          clear hg
                          go_wp2_with fail
                          refine wp_region_bw (by kernel_rfl) (by kernel_rfl) ?_
                          repeat (go_big_quiet_step (fail))
                          refine wpQuiet_nil ?_
                          rintro _ ⟨ix, rfl⟩
                          have hbx := below2 hbm ix.h
                          go_wp2_with fail
                          go_roundw
                          case rel => exact ⟨m + 1, by have := HM.out; omega, by go_num, by rw [HA1.out, HV.out], hbx⟩
                          case measure => have := HM.out; simp [intOf]; omega
                      · have HV : Hid (a1 = false) := hide (by rw [HU4.out]; rfl)
                        go_wp2_with fail
                        refine wp_region_bw (by kernel_rfl) (by kernel_rfl) ?_
                        repeat (go_big_quiet_step (fail))
                        refine wpQuiet_nil ?_
                        rintro _ ⟨ix, rfl⟩
                        have hbx := below2 hbm ix.h
                        go_wp2_with fail
                        go_roundw
                        case rel => exact ⟨m + 1, by have := HM.out; omega, by go_num, by rw [HA1.out, HV.out], hbx⟩
                        case measure => have := HM.out; simp [intOf]; omega
                  · have HV : Hid (a1 = true) := hide (by rw [HU3.out]; rfl)
                    go_wp2_with fail
                    refine wp_region_bw (by kernel_rfl) (by kernel_rfl) ?_
                    repeat (go_big_quiet_step (fail))
                    refine wpQuiet_nil ?_
                    rintro _ ⟨ix, rfl⟩
                    have hbx := below2 hbm ix.h
                    go_wp2_with fail
                    go_roundw
                    case rel => exact ⟨m + 1, by have := HM.out; omega, by go_num, by rw [HA1.out, HV.out], hbx⟩
                    case measure => have := HM.out; simp [intOf]; omega
                · obtain rfl : m = l.length := by omega
                  have HPE : Hid (((l.take l.length).any fun x => decide (x.clause = (k : Int)) || (!x.holds && decide (gv = x.says) && rb)) = pk) := hide (by rw [List.take_length]; exact HPK.out)
                  rw [HPE.out]
                  have own4 := HOW2.out.later hbm
                  have B4 := below2 HBZ.out hbm
                  have hs4 := B4.size
                  cases pk
                  · have HU2 := hide (HU.out (by first | rfl | trivial))
                    go_wp2_with fail
                    go_roundw
                    case rel => exact ⟨k + 1, by have := HK.out; omega, by go_num, by rw [← HU2.out]; exact own4, B4⟩
                    case measure => have := HK.out; simp [intOf]; omega
                  · have HT2 := hide (HT.out (by first | rfl | trivial))
                    go_wp2_with (at_builtin; refine app_int rfl _ _ rfl wf.heap.size _ _ rfl own4 (k : Int) rfl (by omega) hs4 ?_; intro v2 w2 hO2 hb2 hs2)
                    have HO2 := hide hO2
                    have B5 := B4.trans hb2
                    clear hO2 hb2
                    go_roundw
                    case rel => exact ⟨k + 1, by have := HK.out; omega, by go_num, by rw [← HT2.out]; exact HO2.out, B5⟩
                    case measure => have := HK.out; simp [intOf]; omega
            · obtain rfl : k = c.clauses.length := by omega
              have own1 := HOW.out.later hbz
              have hwf := below2 Xr hbz
              obtain ⟨pa2, pc2, rfl⟩ := hown.form
              have HO2 := hide hown
              generalize (upTo PC c.clauses.length).length = pl2 at *
              clear hown
              go_wp2_with fail
              go_ret3
              exact ⟨_, _, rfl, own1.intsF X3.size, HO2.out.intsF Xr.size, hwf⟩
  · obtain ⟨rfl, rfl, rfl, hf20, hc20⟩ := HQ1.out (by first | rfl | trivial)
    have bC3 := bC
    have bQ3 := bQ
    have X3 := hw1
    go_wp2_with fail
    go_loopw [9, 10] (fun v i wr => ∃ (k : Nat), k ≤ c.facts.length ∧ i = .int .i64 k ∧ OwnI wr w1.heap.size v (upTo PF k) ∧ Below w1.heap.size w1 wr) (fun _ i _ => c.facts.length - (intOf i).toNat)
    case atStart => exact ⟨0, by omega, rfl, OwnI.nil _ _, Below.refl _ _⟩
    case round =>
      obtain ⟨k, hk, rfl, hown, hbr⟩ := hrel
      have g2 := (bC3.later hbr).cell 2 rfl
      by_cases hlt : k < c.facts.length
      · have HK := hide hlt
        have hltI : (k : Int) < c.facts.length := by omega
        have HT := hide (fun h => upTo_yes (p := PF) (k := k) h)
        have HU := hide (fun h => upTo_not (p := PF) (k := k) h)
        have hln := upTo_len PF k
        have HPK := hide (HPF.out k)
        obtain ⟨pa, pc, rfl⟩ := hown.form
        have HOW := hide hown
        generalize hup : upTo PF k = up at *
        generalize PF k = pk at *
        have HBR := hide hbr
        clear hown hup hbr
        go_wp2_with fail
        obtain ⟨wr0, rfl⟩ : ∃ W, W = wr := ⟨_, rfl⟩
        go_loopw [11, 12] (fun bb j wr => ∃ m : Nat, m ≤ l.length ∧ j = .int .i64 m ∧ bb = .bool ((l.take m).any fun x => decide (x.fact = (k : Int))) ∧ Below wr0.heap.size wr0 wr) (fun _ j _ => l.length - (intOf j).toNat)
        case atStart => exact ⟨0, by omega, rfl, rfl, Below.refl _ _⟩
        case round =>
          obtain ⟨m, hm, rfl, rfl, hbm⟩ := hrel
          by_cases hlm : m < l.length
          · have HM := hide hlm
            have hlmI : (m : Int) < l.length := by omega
            obtain ⟨b, o, e, hck⟩ := (HL.out.below (below2 (below2 X3 HBR.out) hbm)).cell hlm
            cases e
            have HU2 := hide (any_up (p := fun x : FindD => decide (x.fact = (k : Int))) (d := find0) hlm)
            generalize hA1 : ((l.take (m + 1)).any fun x => decide (x.fact = (k : Int))) = a1 at HU2
            have HA1 := hide hA1
            generalize ((l.take m).any fun x => decide (x.fact = (k : Int))) = a0 at *
            generalize l.getD m find0 = x at hck HU2
            have HU3 : Hid (a1 = (a0 || decide (x.fact = (k : Int)))) := HU2
            have x2 : wr.cell? ⟨b, o + m * 4 + 2, none⟩ = some (.int .i64 x.fact) := hck 2 _ rfl
            clear hck hA1 HU2
            cases a0
            · by_cases hx : x.fact = k
              · have dx : (x.fact == (k : Int)) = true := by simpa using hx
                have HV : Hid (a1 = true) := hide (by rw [HU3.out, decide_eq_true hx]; rfl)
                clear hx
                go_wp2_with fail
                go_roundw
                case rel => exact ⟨m + 1, by have := HM.out; omega, by go_num, by rw [HA1.out, HV.out], hbm⟩
                case measure => have := HM.out; simp [intOf]; omega
              · have dx : (x.fact == (k : Int)) = false := by simpa using hx
                have HV : Hid (a1 = false) := hide (by rw [HU3.out, decide_eq_false hx]; rfl)
                clear hx
                go_wp2_with fail
                go_roundw
                case rel => exact ⟨m + 1, by have := HM.out; omega, by go_num, by rw [HA1.out, HV.out], hbm⟩
                case measure => have := HM.out; simp [intOf]; omega
            · have HV : Hid (a1 = true) := hide (by rw [HU3.out]; rfl)
              go_wp2_with fail
              go_roundw
              case rel => exact ⟨m + 1, by have := HM.out; omega, by go_num, by rw [HA1.out, HV.out], hbm⟩
              case measure => have := HM.out; simp [intOf]; omega
          · obtain rfl : m = l.length := by omega
            have HPE : Hid (((l.take l.length).any fun x => decide (x.fact = (k : Int))) = pk) := hide (by rw [List.take_length]; exact HPK.out)
            rw [HPE.out]
            have own4 := HOW.out.later hbm
            have B4 := below2 HBR.out hbm
            have hs4 := B4.size
            cases pk
            · have HU2 := hide (HU.out (by first | rfl | trivial))
              go_wp2_with fail
              go_roundw
              case rel => exact ⟨k + 1, by have := HK.out; omega, by go_num, by rw [← HU2.out]; exact own4, B4⟩
              case measure => have := HK.out; simp [intOf]; omega
            · have HT2 := hide (HT.out (by first | rfl | trivial))
              go_wp2_with (at_builtin; refine app_int rfl _ _ rfl w1.heap.size _ _ rfl own4 (k : Int) rfl (by omega) hs4 ?_; intro v2 w2 hO2 hb2 hs2)
              have HO2 := hide hO2
              have B5 := B4.trans hb2
              clear hO2 hb2
              go_roundw
              case rel => exact ⟨k + 1, by have := HK.out; omega, by go_num, by rw [← HT2.out]; exact HO2.out, B5⟩
              case measure => have := HK.out; simp [intOf]; omega
      · obtain rfl : k = c.facts.length := by omega
        obtain ⟨pa, pc, rfl⟩ := hown.form
        have HOW := hide hown
        have Xr := below2 X3 hbr
        have bC4 := bC3.later hbr
        have bQ4 := bQ3.later hbr
        generalize (upTo PF c.facts.length).length = pl at *
        clear hown
        go_wp2_with fail
        obtain ⟨wf, rfl⟩ : ∃ wf, wf = wr := ⟨_, rfl⟩
        go_loopw [13, 14] (fun v i wr => ∃ (k : Nat), k ≤ c.clauses.length ∧ i = .int .i64 k ∧ OwnI wr wf.heap.size v (upTo PC k) ∧ Below wf.heap.size wf wr) (fun _ i _ => c.clauses.length - (intOf i).toNat)
        case atStart => exact ⟨0, by omega, rfl, OwnI.nil _ _, Below.refl _ _⟩
        case round =>
          obtain ⟨k, hk, rfl, hown, hbz⟩ := hrel
          have bCz := bC4.later hbz
          have bQz := bQ4.later hbz
          have g0 := bCz.cell 0 rfl
          by_cases hlt : k < c.clauses.length
          · have HK := hide hlt
            have hltI : (k : Int) < c.clauses.length := by omega
            have Xz := below2 Xr hbz
            have HT := hide (fun h => upTo_yes (p := PC) (k := k) h)
            have HU := hide (fun h => upTo_not (p := PC) (k := k) h)
            have hln := upTo_len PC k
            have HPK := hide (HPC.out k)
            obtain ⟨a', n', e', -, -, hcc⟩ := (H.out.below Xz).cl
            cases e'
            obtain ⟨kb, ko, nv, bv, rfl, -, -, -, -, -, k5, -, -⟩ := hcc k hlt
            have HCL := hide (fun W (hb : Below wr.heap.size wr W) => clauser_any c k q _ _ _ W (H.out.below (below2 Xz hb)) hlt)
            generalize rulesB c k q = rb at HPK HCL
            generalize (c.clauses.getD k clause0).gives = gv at HPK k5
            obtain ⟨pa2, pc2, rfl⟩ := hown.form
            have HOW2 := hide hown
            generalize hup : upTo PC k = up at *
            generalize PC k = pk at *
            have HBZ := hide hbz
            clear hown hup hcc hbz
            go_wp2_with fail
            obtain ⟨wr0, rfl⟩ : ∃ W, W = wr := ⟨_, rfl⟩
            go_loopw [15, 16] (fun bb j wr => ∃ m : Nat, m ≤ l.length ∧ j = .int .i64 m ∧ bb = .bool ((l.take m).any fun x => decide (x.clause = (k : Int)) || (!x.holds && decide (gv = x.says) && rb)) ∧ Below wr0.heap.size wr0 wr) (fun _ j _ => l.length - (intOf j).toNat)
            case atStart => exact ⟨0, by omega, rfl, rfl, Below.refl _ _⟩
            case round =>
              obtain ⟨m, hm, rfl, rfl, hbm⟩ := hrel
              by_cases hlm : m < l.length
              · have HM := hide hlm
                have hlmI : (m : Int) < l.length := by omega
                obtain ⟨b, o, e, hck⟩ := (HL.out.below (below2 Xz hbm)).cell hlm
                cases e
                have HU2 := hide (any_up (p := fun x : FindD => decide (x.clause = (k : Int)) || (!x.holds && decide (gv = x.says) && rb)) (d := find0) hlm)
                generalize hA1 : ((l.take (m + 1)).any fun x => decide (x.clause = (k : Int)) || (!x.holds && decide (gv = x.says) && rb)) = a1 at HU2
                have HA1 := hide hA1
                generalize ((l.take m).any fun x => decide (x.clause = (k : Int)) || (!x.holds && decide (gv = x.says) && rb)) = a0 at *
                generalize l.getD m find0 = x at hck HU2
                have HU3 : Hid (a1 = (a0 || (decide (x.clause = (k : Int)) || (!x.holds && decide (gv = x.says) && rb)))) := HU2
                have x0 := bwc (show wr.cell? ⟨b, o + m * 4, none⟩ = some (.int .i64 x.says) from hck 0 _ rfl)
                have x1 := bwc (show wr.cell? ⟨b, o + m * 4 + 1, none⟩ = some (.bool x.holds) from hck 1 _ rfl)
                have x3 := bwc (show wr.cell? ⟨b, o + m * 4 + 3, none⟩ = some (.int .i64 x.clause) from hck 3 _ rfl)
                have gk := bwc (keep hbm k5)
                have d0 := bwc ((bCz.later hbm).cell 0 rfl)
                have d1 := bwc ((bCz.later hbm).cell 1 rfl)
                have d2 := bwc ((bCz.later hbm).cell 2 rfl)
                have q0 := bwc ((bQz.later hbm).cell 0 rfl)
                have q1 := bwc ((bQz.later hbm).cell 1 rfl)
                have q2 := bwc ((bQz.later hbm).cell 2 rfl)
                have q3 := bwc ((bQz.later hbm).cell 3 rfl)
                have HCM := hide (fun W (hb : Below wr.heap.size wr W) => HCL.out W (below2 hbm hb))
                generalize x.holds = xh at *
                clear hck hA1 HU2
                cases a0
                · by_cases hx : x.clause = k
                  · have dx : (x.clause == (k : Int)) = true := by simpa using hx
                    have HV : Hid (a1 = true) := hide (by rw [HU3.out, decide_eq_true hx]; rfl)
                    clear hx
                    go_wp2_with fail
                    refine wp_region_bw (by kernel_rfl) (by kernel_rfl) ?_
                    repeat (go_big_quiet_step (fail))
                    refine wpQuiet_nil ?_
                    rintro _ ⟨ix, rfl⟩
                    have hbx := below2 hbm ix.h
                    go_wp2_with fail
                    go_roundw
                    case rel => exact ⟨m + 1, by have := HM.out; omega, by go_num, by rw [HA1.out, HV.out], hbx⟩
                    case measure => have := HM.out; simp [intOf]; omega
                  · have dx : (x.clause == (k : Int)) = false := by simpa using hx
                    have HU4 : Hid (a1 = (!xh && decide (gv = x.says) && rb)) := hide (by rw [HU3.out, decide_eq_false hx]; rfl)
                    clear hx
                    cases xh
                    · by_cases hg : gv = x.says
                      · have dg : (gv == x.says) = true := by simpa using hg
                        have HV : Hid (a1 = rb) := hide (by rw [HU4.out, decide_eq_true hg]; rfl)
                        clear hg
                        go_wp2_with fail
                        refine wp_region_bw (by kernel_rfl) (by kernel_rfl) ?_
                        repeat (go_big_quiet_step ((go_at_call 54; exact quiet (HCM.out _ (Bw.h _)))))
                        refine wpQuiet_nil ?_
                        rintro _ ⟨ix, rfl⟩
                        have hbx := below2 hbm ix.h
                        go_wp2_with fail
                        go_roundw
                        case rel => exact ⟨m + 1, by have := HM.out; omega, by go_num, by rw [HA1.out, HV.out], hbx⟩
                        case measure => have := HM.out; simp [intOf]; omega
                      · have dg : (gv == x.says) = false := by simpa using hg
                        have HV : Hid (a1 = false) := hide (by rw [HU4.out, decide_eq_false hg]; rfl)
                        clear hg
                        go_wp2_with fail
                        refine wp_region_bw (by kernel_rfl) (by kernel_rfl) ?_
                        repeat (go_big_quiet_step (fail))
                        refine wpQuiet_nil ?_
                        rintro _ ⟨ix, rfl⟩
                        have hbx := below2 hbm ix.h
                        go_wp2_with fail
                        go_roundw
                        case rel => exact ⟨m + 1, by have := HM.out; omega, by go_num, by rw [HA1.out, HV.out], hbx⟩
                        case measure => have := HM.out; simp [intOf]; omega
                    · have HV : Hid (a1 = false) := hide (by rw [HU4.out]; rfl)
                      go_wp2_with fail
                      refine wp_region_bw (by kernel_rfl) (by kernel_rfl) ?_
                      repeat (go_big_quiet_step (fail))
                      refine wpQuiet_nil ?_
                      rintro _ ⟨ix, rfl⟩
                      have hbx := below2 hbm ix.h
                      go_wp2_with fail
                      go_roundw
                      case rel => exact ⟨m + 1, by have := HM.out; omega, by go_num, by rw [HA1.out, HV.out], hbx⟩
                      case measure => have := HM.out; simp [intOf]; omega
                · have HV : Hid (a1 = true) := hide (by rw [HU3.out]; rfl)
                  go_wp2_with fail
                  refine wp_region_bw (by kernel_rfl) (by kernel_rfl) ?_
                  repeat (go_big_quiet_step (fail))
                  refine wpQuiet_nil ?_
                  rintro _ ⟨ix, rfl⟩
                  have hbx := below2 hbm ix.h
                  go_wp2_with fail
                  go_roundw
                  case rel => exact ⟨m + 1, by have := HM.out; omega, by go_num, by rw [HA1.out, HV.out], hbx⟩
                  case measure => have := HM.out; simp [intOf]; omega
              · obtain rfl : m = l.length := by omega
                have HPE : Hid (((l.take l.length).any fun x => decide (x.clause = (k : Int)) || (!x.holds && decide (gv = x.says) && rb)) = pk) := hide (by rw [List.take_length]; exact HPK.out)
                rw [HPE.out]
                have own4 := HOW2.out.later hbm
                have B4 := below2 HBZ.out hbm
                have hs4 := B4.size
                cases pk
                · have HU2 := hide (HU.out (by first | rfl | trivial))
                  go_wp2_with fail
                  go_roundw
                  case rel => exact ⟨k + 1, by have := HK.out; omega, by go_num, by rw [← HU2.out]; exact own4, B4⟩
                  case measure => have := HK.out; simp [intOf]; omega
                · have HT2 := hide (HT.out (by first | rfl | trivial))
                  go_wp2_with (at_builtin; refine app_int rfl _ _ rfl wf.heap.size _ _ rfl own4 (k : Int) rfl (by omega) hs4 ?_; intro v2 w2 hO2 hb2 hs2)
                  have HO2 := hide hO2
                  have B5 := B4.trans hb2
                  clear hO2 hb2
                  go_roundw
                  case rel => exact ⟨k + 1, by have := HK.out; omega, by go_num, by rw [← HT2.out]; exact HO2.out, B5⟩
                  case measure => have := HK.out; simp [intOf]; omega
          · obtain rfl : k = c.clauses.length := by omega
            have own1 := HOW.out.later hbz
            have hwf := below2 Xr hbz
            obtain ⟨pa2, pc2, rfl⟩ := hown.form
            have HO2 := hide hown
            generalize (upTo PC c.clauses.length).length = pl2 at *
            clear hown
            go_wp2_with fail
            go_ret3
            exact ⟨_, _, rfl, own1.intsF X3.size, HO2.out.intsF Xr.size, hwf⟩
end Go.Proofs.YtdjldidfnddpmaaGreat
/- Appends of many records to a slice of a call's own, in a region that draws its order. No condition. -/
namespace Go.Proofs.YtdjldidfnddpmaaGreat
open Go.RowKit

theorem below_own {W w' : World} {B : Nat} {e : TypeId} {k : Nat} {v : Value} {L : List (List Value)} (hown : OwnR W B e k v L) (hB : B ≤ W.heap.size) (hg : W.grownBy w' v.ownBlock) : Below B W w' :=
  (Below.refl B W).grown hg hB (fun k hk => (World.ownsRow.lt hown.1 k hk).1)
theorem step_app_recs {W : World} {ops : Array Oper} {o : Oper} {a : Act} {K : Act → World → Prop} {Q : Exit → Act → World → Prop} {E : Prop} {e t : TypeId} {k by_ : Nat} {z : Value}
    (hinfo : (Tryz.prog.info? e).map (fun i => (i.zero, i.size, i.bytes)) = some (some z, k, by_)) (hzk : z.cells.size = k) (hk : 0 < k) (hu : Tryz.prog.underlying t = some (.slice e)) (hgd : o.guard = none) (s x : Operand)
    (ho : o.op = .call { callee := .builtin .append, args := #[s, x], argTypes := #[t, t] }) (B : Nat) (v : Value) (L : List (List Value)) (hs : a.eval s = v) (hown : OwnR W B e k v L)
    (xa : Option Addr) (m c : Nat) (Lx : List (List Value)) (hm : m = Lx.length) (hx : a.eval x = .slice xa m c) (h6 : ∀ r ∈ Lx, r.length = k) (hone : ∀ u ∈ Lx.flatten, u.oneCell' = true)
    (hcells : ∀ b, xa = some b → ∀ j u, Lx.flatten[j]? = some u → W.cell? (b.add j) = some u) (hnone : xa = none → Lx = []) (hlen : (L.length + Lx.length) * by_ ≤ 140737488355328) (hlen2 : L.length + Lx.length < 1000000) (hB : B ≤ W.heap.size)
    (h : ∀ v' w', OwnR w' B e k v' (L ++ Lx) → Below B W w' → K (a.put o.dst v') w') :
    if Region.wanted o (yielded ops a.tmps) = true then Oper.wp Tryz.prog o a W K Q else E := by
  subst hm
  have hw : Region.wanted o (yielded ops a.tmps) = true := by simp [Region.wanted, hgd]
  rw [if_pos hw]
  obtain ⟨i0, hi, hz0, hz1, hz2⟩ := info_parts hinfo
  cases xa with
  | none =>
    obtain rfl := hnone rfl
    have hrun := run_app_nilK B t o.type e i0 k hu hi v L.length L.flatten hown.1 c
    have hx' : a.eval x = .slice none 0 c := hx
    unfold Oper.wp
    simp [execOp, ho, resolve, invoke, builtin, hs, hx', hrun, Result.andThen]
    exact h v W (by simpa using hown) (Below.refl _ _)
  | some ad =>
    refine wp_append_own _ s x t ho B e i0 z k by_ hu hi hz0 hz1 hz2 hzk hk v L.length L.flatten hs hown.1 ad Lx.length c Lx.flatten hx (flat_len h6) (hcells ad rfl) hone (by unfold maxLen; omega) hlen hB ?_
    intro v' w' hown' hg _
    refine h v' w' ⟨by simpa using hown', fun r hr => ?_⟩ (below_own hown hB hg)
    rcases List.mem_append.1 hr with h1 | h1
    · exact hown.2 r h1
    · exact h6 r h1
theorem step_app_recsS {W : World} {ops : Array Oper} {o : Oper} {T : Array Value} {D : List Deferred} {K : Act → World → Prop} {Q : Exit → Act → World → Prop} {E : Prop} {e t : TypeId} {k by_ : Nat} {z : Value}
    (hinfo : (Tryz.prog.info? e).map (fun i => (i.zero, i.size, i.bytes)) = some (some z, k, by_)) (hzk : z.cells.size = k) (hk : 0 < k) (hu : Tryz.prog.underlying t = some (.slice e)) (hgd : o.guard = none) (s x : Operand)
    (ho : o.op = .call { callee := .builtin .append, args := #[s, x], argTypes := #[t, t] }) (B : Nat) (v : Value) (L : List (List Value)) (hs : Act.eval ⟨T, D⟩ s = v) (hown : OwnR W B e k v L)
    (xa : Option Addr) (m c : Nat) (Lx : List (List Value)) (hm : m = Lx.length) (hx : Act.eval ⟨T, D⟩ x = .slice xa m c) (h6 : ∀ r ∈ Lx, r.length = k) (hone : ∀ u ∈ Lx.flatten, u.oneCell' = true)
    (hcells : ∀ b, xa = some b → ∀ j u, Lx.flatten[j]? = some u → W.cell? (b.add j) = some u) (hnone : xa = none → Lx = []) (hlen : (L.length + Lx.length) * by_ ≤ 140737488355328) (hlen2 : L.length + Lx.length < 1000000) (hB : B ≤ W.heap.size)
    (h : ∀ v' w', OwnR w' B e k v' (L ++ Lx) → Below B W w' → K (Act.put ⟨T, D⟩ o.dst v') w') :
    if Region.wanted o (yielded ops T) = true then Oper.wp Tryz.prog o ⟨T, D⟩ W K Q else E :=
  step_app_recs (a := ⟨T, D⟩) hinfo hzk hk hu hgd s x ho B v L hs hown xa m c Lx hm hx h6 hone hcells hnone hlen hlen2 hB h
end Go.Proofs.YtdjldidfnddpmaaGreat
/- Copies made by an append to an empty slice; the walk of the reference's Copy. Conditions: how the laws lie in memory; sizes. -/
namespace Go.Proofs.YtdjldidfnddpmaaGreat
open Go.RowKit
theorem lit_ints (w : World) : OwnI (w.alloc (.cells #[] 3)) w.heap.size (.slice (some ⟨w.heap.size, 0, none⟩) 0 0) [] := World.ownsRow_lit w #[] 0 (Nat.le_refl _) (by unfold maxLen; omega) rfl
/-- append([]int{}, x...) -/
theorem app_copyI {w : World} {ops : Array Oper} {rest : List Oper} {o : Oper} {a : Act} {Q : Exit → Act → World → Prop} (hgd : o.guard = none) (s x : Operand)
    (ho : o.op = .call { callee := .builtin .append, args := #[s, x], argTypes := #[48, 48] }) (hs : a.eval s = .slice (some ⟨w.heap.size, 0, none⟩) 0 0) (xv : Value) (lx : List Int)
    (hx : a.eval x = xv) (hxs : IntsAt w xv lx) (hlen : lx.length < 100000)
    (h : ∀ va vc w', IntsIn (frmY w.heap.size 3 w') (.slice va lx.length vc) lx → Below w.heap.size w w' → wpList Tryz.prog ops Q rest (a.put o.dst (.slice va lx.length vc)) w') :
    wpList Tryz.prog ops Q (o :: rest) a (w.alloc (.cells #[] 3)) := by
  refine app_intsS hgd s x ho w.heap.size _ [] hs (lit_ints w) xv lx hx (hxs.below (bal w _)) (by simp; omega) (by simp) ?_
  intro v' w' hO hE _
  rw [List.nil_append] at hO
  obtain ⟨va, vc, rfl⟩ := hO.form
  refine h va vc w' (hO.intsY (Nat.le_refl _)) ⟨hE.os, hE.tape, hE.output, by have := hE.size; simp at this; omega, fun k hk => ?_⟩
  rw [hE.block k (by simp; omega) (by intro e; have e : k = w.heap.size := Option.some.inj e; omega), Below.heap_alloc _ _ _ hk]
/-- append([]T{}, x...) -/
theorem app_copyR {w : World} {ops : Array Oper} {rest : List Oper} {o : Oper} {a : Act} {Q : Exit → Act → World → Prop} {e t : TypeId} {k by_ : Nat} {z : Value}
    (hinfo : (Tryz.prog.info? e).map (fun i => (i.zero, i.size, i.bytes)) = some (some z, k, by_)) (hzk : z.cells.size = k) (hk : 0 < k) (hu : Tryz.prog.underlying t = some (.slice e)) (hgd : o.guard = none) (s x : Operand)
    (ho : o.op = .call { callee := .builtin .append, args := #[s, x], argTypes := #[t, t] }) (hs : a.eval s = .slice (some ⟨w.heap.size, 0, none⟩) 0 0)
    {α : Type} {f : α → List Value} {d : α} (hf : ∀ x, (f x).length = k) (h1 : ∀ x, ∀ u ∈ f x, u.oneCell' = true) (xa : Option Addr) (m c : Nat) (lx : List α) (hm : m = lx.length) (hx : a.eval x = .slice xa m c) (hxs : RecIn f d k w.cell? (.slice xa m c) lx) (hlen : lx.length * by_ ≤ 140737488355328) (hlen2 : lx.length < 1000000)
    (h : ∀ va vc w', OwnR w' w.heap.size e k (.slice va m vc) (lx.map f) → Below w.heap.size w w' → wpList Tryz.prog ops Q rest (a.put o.dst (.slice va m vc)) w') :
    wpList Tryz.prog ops Q (o :: rest) a (w.alloc (.cells #[] e)) := by
  subst hm
  refine app_recsE hinfo hzk hk hu hgd s x ho w.heap.size _ [] hs (lit_recsK w e k (Nat.le_refl _)) xa lx.length c (lx.map f) (by rw [List.length_map]) hx (fun r hr => by obtain ⟨x, -, rfl⟩ := List.mem_map.1 hr; exact hf x) (fun u hu => by
    obtain ⟨r, hr, hu⟩ := List.mem_flatten.1 hu
    obtain ⟨x, -, rfl⟩ := List.mem_map.1 hr
    exact h1 x u hu) (fun b hb j u hj => keep (bal w _) (rec_news hf hk (by rw [hb] at hxs; exact hxs) j u hj)) (fun hn => by
    cases lx with
    | nil => rfl
    | cons y t => obtain ⟨b, o, e, -⟩ := hxs.cell (i := 0) (by simp); rw [hn] at e; cases e) (by rw [List.length_nil, Nat.zero_add, List.length_map]; exact hlen) (by rw [List.length_nil, Nat.zero_add, List.length_map]; exact hlen2) (by simp) ?_
  intro v' w' hO hE _
  rw [List.nil_append] at hO
  obtain ⟨va, vc, rfl⟩ := own_form hO
  rw [List.length_map] at hO ⊢
  refine h va vc w' hO ⟨hE.os, hE.tape, hE.output, by have := hE.size; simp at this; omega, fun k hk => ?_⟩
  rw [hE.block k (by simp; omega) (by intro e; have e : k = w.heap.size := Option.some.inj e; omega), Below.heap_alloc _ _ _ hk]
theorem OwnR.weaken {w : World} {B B' k : Nat} {e : TypeId} {v : Value} {L : List (List Value)} (h : OwnR w B e k v L) (hB : B' ≤ B) : OwnR w B' e k v L := by
  obtain ⟨⟨h1, h2⟩, h3⟩ := h
  refine ⟨⟨h1, h2.imp id ?_⟩, h3⟩
  rintro ⟨g, cap, cur, e1, e2, e3⟩
  exact ⟨g, cap, cur, e1, Nat.le_trans hB e2, e3⟩
theorem take_succD {α : Type} (l : List α) (d : α) {k : Nat} (h : k < l.length) : l.take (k + 1) = l.take k ++ [l.getD k d] := take_succ' l k d h
set_option maxRecDepth 100000 in
set_option maxHeartbeats 4000000 in
theorem copyr_any (c : CodeD) (cv rv fv : Value) (w : World) (h : CodeIn w.cell? cv rv fv c) (hl1 : c.clauses.length ≤ 1000) (hl2 : c.repeals.length ≤ 1000) (hl3 : c.facts.length ≤ 1000) (hl4 : ∀ x ∈ c.clauses, x.needs.length ≤ 1000 ∧ x.bars.length ≤ 1000) :
    Calls Tryz.prog 28 #[codeV cv rv fv] w (CodeQ c w) := by
  have HC := hide h
  have HL4 := hide hl4
  obtain ⟨⟨ca, cn, rfl, -, -, -⟩, ⟨ra, rn, rfl, -, -, -⟩, ⟨fa, fn, rfl, -, -, -⟩⟩ := id h
  clear h hl4
  go_enter Tryz.func28, Tryz.ntmps28
  go_wp2_with fail
  generalize hX1 : World.alloc w _ = X1
  have zX1 : X1.heap.size = w.heap.size + 1 := by rw [← hX1]; simp
  have bX1 : Below w.heap.size w X1 := by rw [← hX1]; exact bal w _
  have bI_1 : Blk X1 (w.heap.size) [.slice ca c.clauses.length cn, .slice ra c.repeals.length rn, .slice fa c.facts.length fn] 30 := by rw [← hX1]; exact Blk.newA w _ (by first | rfl | simp)
  generalize hX2 : World.alloc X1 _ = X2
  have zX2 : X2.heap.size = w.heap.size + 1 + 1 := by rw [← hX2]; simp [zX1]
  have bX2 : Below X1.heap.size X1 X2 := by rw [← hX2]; exact bal X1 _
  have bR_2 : Blk X2 (w.heap.size + 1) [.slice none 0 0, .slice none 0 0, .slice none 0 0] 30 := by rw [← hX2, ← zX1]; exact Blk.newA X1 _ (by first | rfl | simp)
  have bI_2 := bI_1.later bX2
  generalize hX3 : World.alloc X2 _ = X3
  have zX3 : X3.heap.size = w.heap.size + 1 + 1 + 1 := by rw [← hX3]; simp [zX2]
  have bX3 : Below X2.heap.size X2 X3 := by rw [← hX3]; exact bal X2 _
  have bC : Blk X3 (w.heap.size + 1 + 1) [.slice none 0 0, .slice none 0 0, .slice none 0 0] 30 := by rw [← hX3, ← zX2]; exact Blk.newA X2 _ (by first | rfl | simp)
  have bI := bI_2.later bX3
  have bR := bR_2.later bX3
  have Xb := below2 (below2 (bX1) bX2) bX3
  have Xz := zX3
  clear hX1 zX1 bX1 hX2 zX2 bX2 hX3 zX3 bX3 bI_1 bI_2 bR_2
  go_loopw [4] (fun i wr => ∃ (k : Nat) (ov : Value), k ≤ c.clauses.length ∧ i = .int .i64 k ∧ ClausesOwn wr w.heap.size (w.heap.size + 1 + 1 + 1) ov (c.clauses.take k) ∧ Blk wr (w.heap.size + 1 + 1) [ov, .slice none 0 0, .slice none 0 0] 30 ∧ Blk wr w.heap.size [.slice ca c.clauses.length cn, .slice ra c.repeals.length rn, .slice fa c.facts.length fn] 30 ∧ Blk wr (w.heap.size + 1) [.slice none 0 0, .slice none 0 0, .slice none 0 0] 30 ∧ Below w.heap.size w wr ∧ w.heap.size + 1 + 1 + 1 ≤ wr.heap.size) (fun i _ => c.clauses.length - (intOf i).toNat)
  case atStart => exact ⟨0, _, by omega, rfl, ClausesOwn.nil _ _ _, bC, bI, bR, Xb, by omega⟩
  case round =>
    obtain ⟨k, ov, hk, rfl, hown, hbC, hbI, hbR, hbr, hsz⟩ := hrel
    have i0 := hbI.cell 0 rfl
    by_cases hlt : k < c.clauses.length
    · have HK := hide hlt
      obtain ⟨a', n', e', -, -, hcc⟩ := (HC.out.below hbr).cl
      cases e'
      obtain ⟨b, o, nv, bv, rfl, k0, k1, k2, k3, k4, k5, hn, hb⟩ := hcc k hlt
      have hx4 := HL4.out _ (getD_mem c.clauses k (d := clause0) hlt)
      have HTK := hide (take_succD c.clauses clause0 hlt)
      have hltI : (k : Int) < c.clauses.length := by omega
      generalize c.clauses.getD k clause0 = y at k0 k1 k2 k3 k4 k5 hn hb hx4 HTK
      obtain ⟨na, nn, rfl, -⟩ := id hn
      obtain ⟨ba, bn, rfl, -⟩ := id hb
      have HN := hide hn
      have HB := hide hb
      have HX4 := hide hx4
      clear hcc hn hb hx4
      obtain ⟨Lr, hOR, hLl, hLs⟩ := hown
      obtain ⟨oa, oc, rfl⟩ := own_form hOR
      have hln : Lr.length ≤ 1000 := by rw [hLl, List.length_take]; omega
      have HLS := hide hLs
      have HLL := hide hLl
      have HI := hide hbI
      have HR := hide hbR
      have HBR := hide hbr
      clear hLs hLl hbI hbR hbr bI bR bC Xb
      go_wp2_with (first | (at_builtin; generalize hW2 : World.setCell w2 _ _ = W2; have z2 : W2.heap.size = w2.heap.size := (by rw [← hW2]; simp [World.setCell]); have hb2' : Below wr.heap.size wr W2 := (by rw [← hW2]; exact (below2 hb1' hb2).setCell (p := ⟨wr.heap.size, 4, none⟩) (Nat.le_refl _) _); have hI1'' : IntsIn (frmY wr.heap.size 3 W2) (.slice va1 y.needs.length vc1) y.needs := (by rw [← hW2]; exact (hI1'.keeps (keeps_frmY_below hb2)).keeps (keeps_frmY_set bY3 (by decide) 4 _)); have hI2' : IntsIn (frmY wr.heap.size 3 W2) (.slice va2 y.bars.length vc2) y.bars := (by have hs1 := hb1'.size; rw [← hW2]; exact (hI2.keeps (keeps_frmY_le _ _ hs1)).keeps (keeps_frmY_set bY3 (by decide) 4 _)); clear hW2; have hOW := hOR.later' hb2'; have hsW := hb2'.size; refine app_recE infoClause rfl (by decide) Tryz.underlying26 rfl _ _ rfl (w.heap.size + 1 + 1 + 1) _ Lr rfl hOW (clauseC y (.slice va1 y.needs.length vc1) (.slice va2 y.bars.length vc2)) rfl clauseC_one _ rfl z2.symm (by omega) (by omega) (by omega) ?_; intro v3 w3 hO3 hE3 hob3; obtain ⟨g3', c3', rfl⟩ := own_some hO3; have hbC3 : Blk w3 (w.heap.size + 1 + 1) [.slice oa Lr.length oc, .slice none 0 0, .slice none 0 0] 30 := (hbC.later hb2').eff hE3 (fun e => hOW.neT (hbC.later hb2') (by decide) e.symm); have r0 := hbC3.cell 0 rfl; have rf := hbC3.frozen 0) | (at_builtin; generalize hW1 : World.setCell w1 _ _ = W1; have bY2 : Blk W1 wr.heap.size (clauseC y (.slice va1 y.needs.length vc1) (.slice ba y.bars.length bn)) 67 := (by rw [← hW1]; exact bY1.set 3 _); have z1 : W1.heap.size = w1.heap.size := (by rw [← hW1]; simp [World.setCell]); have hb1' : Below wr.heap.size wr W1 := (by rw [← hW1]; exact (below2 hb0 hb1).setCell (p := ⟨wr.heap.size, 3, none⟩) (Nat.le_refl _) _); have hI1' : IntsIn (frmY wr.heap.size 3 W1) (.slice va1 y.needs.length vc1) y.needs := (by rw [← hW1]; exact (hI1.keeps (keeps_frmY_le _ _ (by omega))).keeps (keeps_frmY_set bY1 (by decide) 3 _)); clear hW1; refine app_copyI rfl _ _ rfl (by rw [z1]; rfl) _ y.bars rfl (IntsAt.below hb1' HB.out) (by have := HX4.out.2; omega) ?_; intro va2 vc2 w2 hI2 hb2; have bY3 := bY2.later hb2; have f4 := bY3.frozen 4; have m0 := bY3.cell 0 rfl; have m1 := bY3.cell 1 rfl; have m2 := bY3.cell 2 rfl; have m3 := bY3.cell 3 rfl; have m4 := bY3.cell 4 rfl; have m5 := bY3.cell 5 rfl; have cc0 := (hbC.later (below2 hb1' hb2)).cell 0 rfl; have hne : w.heap.size + 1 + 1 ≠ wr.heap.size := (by omega)) | (at_builtin; generalize hW0 : World.alloc wr _ = W0; have bY : Blk W0 wr.heap.size (clauseC y (.slice na y.needs.length nn) (.slice ba y.bars.length bn)) 67 := (by rw [← hW0]; exact Blk.newA wr _ rfl); have z0 : W0.heap.size = wr.heap.size + 1 := (by rw [← hW0]; simp); have hb0 : Below wr.heap.size wr W0 := (by rw [← hW0]; exact bal wr _); clear hW0; refine app_copyI rfl _ _ rfl (by rw [z0]; rfl) _ y.needs rfl (IntsAt.below hb0 HN.out) (by have := HX4.out.1; omega) ?_; intro va1 vc1 w1 hI1 hb1; have bY1 := bY.later hb1; have f3 := bY1.frozen 3; have g0 := bY1.cell 0 rfl; have g1 := bY1.cell 1 rfl; have g2 := bY1.cell 2 rfl; have g3 := bY1.cell 3 rfl; have g4 := bY1.cell 4 rfl; have g5 := bY1.cell 5 rfl; have gg4 := fun o => keep (bal _ o) ((bY1.set 3 (.slice va1 y.needs.length vc1)).cell 4 rfl)))
      have hEE : EffE (w.heap.size + 1 + 1 + 1) 67 W2 w3 := effE_of_grown hOW ⟨hE3.os, hE3.tape, hE3.output, hE3.size, fun b hb hn => hE3.block b hb hn⟩
      have hEY : EffY (w.heap.size + 1 + 1 + 1) 67 (w.heap.size + 1 + 1) wr (w3.setCell ⟨w.heap.size + 1 + 1, 0, none⟩ (.slice (some ⟨g3', 0, none⟩) (Lr.length + 1) c3')) := ((EffY.of_below hb2').app hEE).set 0 _
      have hsw : w.heap.size ≤ wr.heap.size := by omega
      have hq1 : IntsIn (frmY w.heap.size 3 (w3.setCell ⟨w.heap.size + 1 + 1, 0, none⟩ (.slice (some ⟨g3', 0, none⟩) (Lr.length + 1) c3'))) (.slice va1 y.needs.length vc1) y.needs := ((hI1''.keeps (keeps_frmY_le _ _ hsw)).keeps (keeps_frmY_eff hEE (by decide))).keeps (keeps_frmY_set hbC3 (by decide) 0 _)
      have hq2 : IntsIn (frmY w.heap.size 3 (w3.setCell ⟨w.heap.size + 1 + 1, 0, none⟩ (.slice (some ⟨g3', 0, none⟩) (Lr.length + 1) c3'))) (.slice va2 y.bars.length vc2) y.bars := ((hI2'.keeps (keeps_frmY_le _ _ hsw)).keeps (keeps_frmY_eff hEE (by decide))).keeps (keeps_frmY_set hbC3 (by decide) 0 _)
      have hcl := clauses_app HLL.out HLS.out hEY hbC (by decide) (by decide) hq1 hq2 (OwnR.setO hO3 hbC3 (by decide) _)
      have HCL := hide hcl
      have HC3 := hide (hbC3.set 0 (.slice (some ⟨g3', 0, none⟩) (Lr.length + 1) c3'))
      have HI3 := hide (hEY.blk HI.out (show w.heap.size ≠ w.heap.size + 1 + 1 by omega) (by decide))
      have HR3 := hide (hEY.blk HR.out (show w.heap.size + 1 ≠ w.heap.size + 1 + 1 by omega) (by decide))
      have HB3 := hide (keeps_low_effY hEY (show w.heap.size ≤ w.heap.size + 1 + 1 + 1 by omega) (show w.heap.size ≤ w.heap.size + 1 + 1 by omega) HBR.out)
      have HS3 : Hid (w.heap.size + 1 + 1 + 1 ≤ _) := hide (Nat.le_trans hsz hEY.size)
      clear hEY hEE hq1 hq2 hcl
      go_roundw
      case rel => exact ⟨k + 1, _, by have := HK.out; omega, by go_num, by rw [HTK.out]; exact HCL.out, HC3.out, HI3.out, HR3.out, HB3.out, HS3.out⟩
      case measure => have := HK.out; simp [intOf]; omega
    · obtain rfl : k = c.clauses.length := by omega
      rw [List.take_length] at hown
      obtain ⟨oa, oc, rfl⟩ := hown.form
      have hre := (HC.out.below hbr).re
      have hfa := HC.out.fa
      have hi1 := fun o => keep (bal wr o) (hbI.cell 1 rfl)
      clear bI bR bC Xb
      go_wp2_with (first | (at_builtin; generalize hW1 : World.setCell w1 _ _ = W1; have z1 : W1.heap.size = w1.heap.size := (by rw [← hW1]; simp [World.setCell]); have hE1 : EffY (w.heap.size + 1 + 1 + 1) 31 (w.heap.size + 1 + 1) wr W1 := (by rw [← hW1]; exact (EffY.of_below hb1).set 1 _); have hbC2 : Blk W1 (w.heap.size + 1 + 1) [.slice oa c.clauses.length oc, .slice va1 c.repeals.length vc1, .slice none 0 0] 30 := (by rw [← hW1]; exact hbC1.set 1 _); have hO1' : OwnR W1 wr.heap.size 60 3 (.slice va1 c.repeals.length vc1) (c.repeals.map repealC) := (by rw [← hW1]; exact hO1.setO hbC1 (by decide) _); clear hW1; refine app_copyR infoFact rfl (by decide) Tryz.underlying28 rfl _ _ rfl (by rw [z1]; rfl) (f := factC) (d := fact0) (fun _ => rfl) (fun _ => factC_one) fa c.facts.length fn c.facts rfl rfl (hfa.below (keeps_low_effY hE1 (by omega) (by omega) hbr)) (by omega) (by omega) ?_; intro va2 vc2 w2 hO2 hb2; have hbC3 := hbC2.later hb2; have s0 := hbC3.cell 0 rfl; have s1 := hbC3.cell 1 rfl; have s2 := hbC3.cell 2 rfl; have sf2 := hbC3.frozen 2; have hbR2 := (hE1.blk hbR (show w.heap.size + 1 ≠ w.heap.size + 1 + 1 by omega) (by decide)).later hb2; have t0 := hbR2.cell 0 rfl; have t1 := hbR2.cell 1 rfl; have t2 := hbR2.cell 2 rfl; have tf0 := hbR2.frozen 0; have tf1 := hbR2.frozen 1; have tf2 := hbR2.frozen 2; have hne1 : w.heap.size + 1 ≠ w.heap.size + 1 + 1 := (by omega)) | (at_builtin; refine app_copyR infoRepeal rfl (by decide) Tryz.underlying27 rfl _ _ rfl rfl (f := repealC) (d := repeal0) (fun _ => rfl) (fun _ => repealC_one) ra c.repeals.length rn c.repeals rfl rfl hre (by omega) (by omega) ?_; intro va1 vc1 w1 hO1 hb1; have hbC1 := hbC.later hb1; have p1 := hbC1.cell 1 rfl; have pf1 := hbC1.frozen 1; have hbI1 := hbI.later hb1; have gi := fun o => keep (bal (w1.setCell ⟨w.heap.size + 1 + 1, 1, none⟩ (.slice va1 c.repeals.length vc1)) o) ((hbI1.other (show w.heap.size ≠ w.heap.size + 1 + 1 by omega) 1 (.slice va1 c.repeals.length vc1)).cell 2 rfl)))
      have hE2 := (hE1.then hb2).set 2 (.slice va2 c.facts.length vc2)
      have hE3 : EffY (w.heap.size + 1 + 1 + 1) 31 (w.heap.size + 1) (w2.setCell ⟨w.heap.size + 1 + 1, 2, none⟩ (.slice va2 c.facts.length vc2)) _ := (((EffY.of_below (Below.refl _ _)).set 0 (.slice oa c.clauses.length oc)).set 1 (.slice va1 c.repeals.length vc1)).set 2 (.slice va2 c.facts.length vc2)
      have hbR3 : Blk (w2.setCell ⟨w.heap.size + 1 + 1, 2, none⟩ (.slice va2 c.facts.length vc2)) (w.heap.size + 1) [.slice none 0 0, .slice none 0 0, .slice none 0 0] 30 := hbR2.other hne1 2 _
      obtain ⟨hy2, -, -⟩ := set3 hbR3 (.slice oa c.clauses.length oc) (.slice va1 c.repeals.length vc1) (.slice va2 c.facts.length vc2)
      have hcl := (hown.kept hE2 hbC (by decide) (by decide) (by decide) (by decide)).kept hE3 hbR3 (by decide) (by decide) (by decide) (by decide)
      have hrl := (((hO1'.later' hb2).setO hbC3 (by decide) (j := 2) (.slice va2 c.facts.length vc2)).kept hE3 hbR3 (by decide) (by decide)).weaken hsz
      have hfl := ((hO2.setO hbC3 (by decide) (j := 2) (.slice va2 c.facts.length vc2)).kept hE3 hbR3 (by decide) (by decide)).weaken (Nat.le_trans hsz hE1.size)
      have HCF := hide (CodeOwn.mk hcl hrl hfl)
      have HBF := hide (keeps_low_effY hE3 (show w.heap.size ≤ w.heap.size + 1 + 1 + 1 by omega) (show w.heap.size ≤ w.heap.size + 1 by omega) (keeps_low_effY hE2 (show w.heap.size ≤ w.heap.size + 1 + 1 + 1 by omega) (show w.heap.size ≤ w.heap.size + 1 + 1 by omega) hbr))
      have HSZ := hide (Nat.le_trans hsz (Nat.le_trans hE2.size hE3.size))
      clear hcl hrl hfl hE1 hE2 hE3
      generalize World.setCell (World.setCell _ _ _) ⟨w.heap.size + 1, 2, none⟩ _ = Wf at hy2 HCF HBF HSZ ⊢
      have x0 := hy2.cell 0 rfl
      have x1 := hy2.cell 1 rfl
      have x2 := hy2.cell 2 rfl
      refine bodyPost_ret (v := .agg #[.slice oa c.clauses.length oc, .slice va1 c.repeals.length vc1, .slice va2 c.facts.length vc2]) (by simp [results, Tryz.results28, go_sem, x0, x1, x2]) rfl ?_
      exact ⟨_, _, _, w.heap.size + 1 + 1 + 1, rfl, by omega, HSZ.out, HCF.out, HBF.out⟩
end Go.Proofs.YtdjldidfnddpmaaGreat
/- The walk of the law's inserted. Conditions: how the list lies in memory; sizes. -/
namespace Go.Proofs.YtdjldidfnddpmaaGreat
open Go.RowKit
/-- what inserted has made of the first numbers: the list, and whether the number is in it -/
def insS (n : Int) (a : List Int × Bool) (x : Int) : List Int × Bool := if a.2 = false ∧ n < x then (a.1 ++ [n, x], true) else (a.1 ++ [x], a.2)
def insK (l : List Int) (n : Int) (k : Nat) : List Int × Bool := (l.take k).foldl (insS n) ([], false)
theorem insK_succ (l : List Int) (n : Int) {k : Nat} (h : k < l.length) : insK l n (k + 1) = insS n (insK l n k) (l.getD k 0) := by
  unfold insK
  rw [take_succ' l k 0 h, List.foldl_append]; rfl
theorem insS_true (n : Int) : ∀ (l acc : List Int), l.foldl (insS n) (acc, true) = (acc ++ l, true)
  | [], acc => by simp
  | x :: l, acc => by
    rw [List.foldl_cons]
    have e : insS n (acc, true) x = (acc ++ [x], true) := by simp [insS]
    rw [e, insS_true n l]; simp
theorem insS_false (n : Int) : ∀ (l acc : List Int), (fun (r : List Int × Bool) => if r.2 = true then r.1 else r.1 ++ [n]) (l.foldl (insS n) (acc, false)) = acc ++ insA n l
  | [], acc => by simp [insA]
  | x :: l, acc => by
    rw [List.foldl_cons]
    by_cases h : n < x
    · have e : insS n (acc, false) x = (acc ++ [n, x], true) := by simp [insS, h]
      rw [e, insS_true]
      simp [insA, h]
    · have e : insS n (acc, false) x = (acc ++ [x], false) := by simp [insS, h]
      rw [e, insS_false n l]
      simp [insA, h]
theorem insK_len (l : List Int) (n : Int) : ∀ k, k ≤ l.length → (insK l n k).1.length ≤ 2 * k
  | 0, _ => by simp [insK]
  | k + 1, h => by
    have ih := insK_len l n k (by omega)
    rw [insK_succ l n (by omega)]
    unfold insS
    split
    · simp; omega
    · simp; omega
theorem insK_end (l : List Int) (n : Int) (h : n ∉ l) : insertedF l n = if (insK l n l.length).2 = true then (insK l n l.length).1 else (insK l n l.length).1 ++ [n] := by
  have := insS_false n l []
  unfold insertedF insK
  rw [if_neg h, List.take_length]
  rw [List.nil_append] at this
  exact this.symm
theorem mem_take_succ {l : List Int} {n : Int} {k : Nat} (h : k < l.length) (h1 : n ∉ l.take k) (h2 : l.getD k 0 ≠ n) : n ∉ l.take (k + 1) := by
  rw [take_succ' l k 0 h, List.mem_append, List.mem_singleton]
  rintro (h3 | h3)
  · exact h1 h3
  · exact h2 h3.symm
def AnyI (l : List Int) (w : World) (e : Ending) (w' : World) : Prop := ∃ v, e = .returned v ∧ IntsIn w'.cell? v l ∧ Below w.heap.size w w'
end Go.Proofs.YtdjldidfnddpmaaGreat
namespace Go.Proofs.YtdjldidfnddpmaaGreat
open Go.RowKit
/-- Decide answers -/
def DecV (a : Bool) (P : List FindD) (w : World) (e : Ending) (w' : World) : Prop :=
  ∃ la ln, e = .returned (.tuple #[.bool a, .slice la P.length ln, .int .i64 0]) ∧ FindsIn w'.cell? (.slice la P.length ln) P ∧ Below w.heap.size w w'
theorem decide_ok (c : CodeD) (q : QueryD) (cv rv fv : Value) (w : World) (h : CodeIn w.cell? cv rv fv c) (hV : validC c = true) (hQ : asksB q = true) : Calls Tryz.prog 11 #[codeV cv rv fv, queryV q] w (DecV (answerB c q) (decideP c q) w) := by
  refine (decideS_any c q cv rv fv w h).mono ?_
  rintro e w4 ⟨lv, rfl, hl, hb4⟩
  rw [hV, hQ] at hl ⊢
  have he0 : errS c q = 0 := by unfold errS; rw [hV, hQ]; rfl
  rw [he0]
  simp only [Bool.and_self, Bool.true_and, if_true] at hl ⊢
  obtain ⟨la, ln, rfl, -⟩ := id hl
  exact ⟨la, ln, rfl, hl.at, hb4⟩
/-- a cell that holds a slice is no number's -/
theorem ints_setS {w : World} {p : Addr} {a : Option Addr} {n m : Nat} (hp : w.cell? p = some (.slice a n m)) (u : Value) {v : Value} {l : List Int} (h : IntsIn w.cell? v l) : IntsIn (w.setCell p u).cell? v l := by
  obtain ⟨a', c', e, h1, h2, h3⟩ := h
  refine ⟨a', c', e, h1, h2, fun i hi => ?_⟩
  obtain ⟨b, o, e2, h4⟩ := h3 i hi
  refine ⟨b, o, e2, ?_⟩
  rw [World.cell?_setCell_other _ _ _ _ (fun e3 => by rw [← e3, hp] at h4; cases h4)]
  exact h4
theorem clauses_put {w : World} {A B g n : Nat} {l : List ClauseD} (h : ClausesOwn w A B (.slice (some ⟨g, 0, none⟩) l.length n) l) {k : Nat} (hk : k < l.length) (b : Bool) {nv : Value} {ns : List Int} (hn : IntsIn w.cell? nv ns) :
    ClausesIn (w.setCell ⟨g, k * 6 + (if b then 3 else 4), none⟩ nv).cell? (.slice (some ⟨g, 0, none⟩) l.length n) (l.set k (if b then { l.getD k clause0 with needs := ns } else { l.getD k clause0 with bars := ns })) := by
  obtain ⟨L, hOR, hl, hs⟩ := h
  have hOR0 := hOR
  rw [← hl] at hOR
  have hj : (if b then 3 else 4) < 6 := by cases b <;> decide
  have hOR2 := hOR.set k _ (by rw [hl]; exact hk) hj nv
  obtain ⟨nv0, bv0, e0, hn0, hb0⟩ := hs k hk
  have hp : ∃ a n m, w.cell? ⟨g, k * 6 + (if b then 3 else 4), none⟩ = some (.slice a n m) := by
    obtain ⟨a1, c1, rfl, -⟩ := id hn0
    obtain ⟨a2, c2, rfl, -⟩ := id hb0
    cases b
    · exact ⟨_, _, _, hOR.cell k 4 (by rw [hl]; exact hk) (by decide) (by rw [e0]; rfl)⟩
    · exact ⟨_, _, _, hOR.cell k 3 (by rw [hl]; exact hk) (by decide) (by rw [e0]; rfl)⟩
  obtain ⟨pa, pn, pm, hp⟩ := hp
  have K : ∀ {v : Value} {l : List Int}, IntsIn w.cell? v l → IntsIn (w.setCell ⟨g, k * 6 + (if b then 3 else 4), none⟩ nv).cell? v l := fun h => ints_setS hp nv h
  have hcc : l.length ≤ n ∧ n ≤ 9223372036854775807 := by
    rcases hOR.form with ⟨e1, -⟩ | ⟨g', c', cur, e1, e2, e3, e4, e5⟩
    · cases e1
    · cases e1; rw [hl] at e4; exact ⟨by omega, by simpa [maxLen] using e5⟩
  have hlen : (l.set k (if b then { l.getD k clause0 with needs := ns } else { l.getD k clause0 with bars := ns })).length = l.length := List.length_set
  have hlL : (L.set k ((L.getD k []).set (if b then 3 else 4) nv)).length = l.length := by rw [List.length_set, hl]
  refine ⟨_, n, by rw [hlen], by rw [hlen]; exact hcc.1, hcc.2, fun i hi => ?_⟩
  rw [hlen] at hi
  by_cases e : i = k
  · subst e
    rw [setC_eq hi]
    have hg : (L.set i ((L.getD i []).set (if b then 3 else 4) nv)).getD i [] = (L.getD i []).set (if b then 3 else 4) nv := by
      rw [List.getD_eq_getElem?_getD, List.getElem?_set_self (by rw [hl]; exact hi)]; rfl
    cases b
    · have cc : ∀ (j : Nat) (u : Value), j < 6 → (clauseC { l.getD i clause0 with bars := ns } nv0 nv)[j]? = some u → (w.setCell ⟨g, i * 6 + 4, none⟩ nv).cell? ⟨g, 0 + i * 6 + j, none⟩ = some u := fun j u hj hu => by
        rw [Nat.zero_add]; exact hOR2.cell i j (by rw [hlL]; exact hi) hj (by rw [hg, e0]; exact hu)
      exact ⟨g, 0, nv0, nv, rfl, cc 0 _ (by omega) rfl, cc 1 _ (by omega) rfl, cc 2 _ (by omega) rfl, cc 3 _ (by omega) rfl, cc 4 _ (by omega) rfl, cc 5 _ (by omega) rfl, K (hn0.keeps (keeps_frmY _ _ _)).at, K hn⟩
    · have cc : ∀ (j : Nat) (u : Value), j < 6 → (clauseC { l.getD i clause0 with needs := ns } nv bv0)[j]? = some u → (w.setCell ⟨g, i * 6 + 3, none⟩ nv).cell? ⟨g, 0 + i * 6 + j, none⟩ = some u := fun j u hj hu => by
        rw [Nat.zero_add]; exact hOR2.cell i j (by rw [hlL]; exact hi) hj (by rw [hg, e0]; exact hu)
      exact ⟨g, 0, nv, bv0, rfl, cc 0 _ (by omega) rfl, cc 1 _ (by omega) rfl, cc 2 _ (by omega) rfl, cc 3 _ (by omega) rfl, cc 4 _ (by omega) rfl, cc 5 _ (by omega) rfl, K hn, K (hb0.keeps (keeps_frmY _ _ _)).at⟩
  · rw [setC_ne _ e]
    obtain ⟨nv1, bv1, e1, hn1, hb1⟩ := hs i hi
    have hg : (L.set k ((L.getD k []).set (if b then 3 else 4) nv)).getD i [] = L.getD i [] := by
      rw [List.getD_eq_getElem?_getD, List.getElem?_set_ne (Ne.symm e), List.getD_eq_getElem?_getD]
    have cc : ∀ (j : Nat) (u : Value), j < 6 → (clauseC (l.getD i clause0) nv1 bv1)[j]? = some u → (w.setCell ⟨g, k * 6 + (if b then 3 else 4), none⟩ nv).cell? ⟨g, 0 + i * 6 + j, none⟩ = some u := fun j u hj hu => by
      rw [Nat.zero_add]; exact hOR2.cell i j (by rw [hlL]; exact hi) hj (by rw [hg, e1]; exact hu)
    exact ⟨g, 0, nv1, bv1, rfl, cc 0 _ (by omega) rfl, cc 1 _ (by omega) rfl, cc 2 _ (by omega) rfl, cc 3 _ (by omega) rfl, cc 4 _ (by omega) rfl, cc 5 _ (by omega) rfl, K (hn1.keeps (keeps_frmY _ _ _)).at, K (hb1.keeps (keeps_frmY _ _ _)).at⟩
/-- own laws of which one clause has got another list, in memory -/
theorem code_put {w : World} {A B g n : Nat} {rv fv : Value} {c : CodeD} (h : CodeOwn w A B (.slice (some ⟨g, 0, none⟩) c.clauses.length n) rv fv c) {k : Nat} (hk : k < c.clauses.length) (b : Bool) {nv : Value} {ns : List Int} (hn : IntsIn w.cell? nv ns) :
    CodeIn (w.setCell ⟨g, k * 6 + (if b then 3 else 4), none⟩ nv).cell? (.slice (some ⟨g, 0, none⟩) c.clauses.length n) rv fv ⟨c.clauses.set k (if b then { c.clauses.getD k clause0 with needs := ns } else { c.clauses.getD k clause0 with bars := ns }), c.repeals, c.facts⟩ := by
  obtain ⟨L, hOR, hl, -⟩ := id h.cl
  rw [← hl] at hOR
  have hg : ∀ b' : Nat, ∀ (t : TypeId) (kk : Nat) (v : Value) (L' : List (List Value)), t ≠ 67 → OwnR w b' t kk v L' → OwnR (w.setCell ⟨g, k * 6 + (if b then 3 else 4), none⟩ nv) b' t kk v L' := fun b' t kk v L' ht h' => by
    obtain ⟨⟨k1, k2⟩, k3⟩ := h'
    refine ⟨⟨k1, k2.imp id ?_⟩, k3⟩
    rintro ⟨g', cap, cur, e1, e2, e3, e4⟩
    refine ⟨g', cap, cur, e1, e2, ?_, e4⟩
    refine (Below.heap_setCell _ _ _ g' ?_).trans e3
    show g' ≠ g
    rintro rfl
    rcases hOR.form with ⟨e1, -⟩ | ⟨g2, c2, cur2, e5, e6, e7, -⟩
    · cases e1
    · cases e5
      rw [e3] at e7
      simp at e7; exact ht e7.2
  refine ⟨?_, RecIn.at (RecIn.of_own (hg _ _ _ _ _ (by decide) h.re) (fun _ => rfl) (Nat.le_refl _)), RecIn.at (RecIn.of_own (hg _ _ _ _ _ (by decide) h.fa) (fun _ => rfl) (Nat.le_refl _))⟩
  have := clauses_put h.cl hk b hn
  exact this
theorem clause_gives {c : CodeD} (hV : validC c = true) {k : Nat} (hk : k < c.clauses.length) : 0 ≤ (c.clauses.getD k clause0).gives ∧ (c.clauses.getD k clause0).gives ≤ 19 := by
  have h := valid_clause hV hk
  simp only [clauseB, Bool.and_eq_true, inB_iff] at h
  exact h.1.1.2
/-- where a clause of own laws lies -/
theorem clauses_at {w : World} {A B n : Nat} {a : Option Addr} {l : List ClauseD} (h : ClausesOwn w A B (.slice a l.length n) l) {k : Nat} (hk : k < l.length) :
    ∃ g, a = some ⟨g, 0, none⟩ ∧ B ≤ g ∧ g < w.heap.size ∧ (∀ j, w.frozen? ⟨g, j, none⟩ = false) ∧ ∃ nv bv, IntsIn (frmY A 3 w) nv (l.getD k clause0).needs ∧ IntsIn (frmY A 3 w) bv (l.getD k clause0).bars ∧ w.cell? ⟨g, k * 6 + 3, none⟩ = some nv ∧ w.cell? ⟨g, k * 6 + 4, none⟩ = some bv := by
  obtain ⟨L, hOR, hl, hs⟩ := h
  obtain ⟨nv, bv, e0, hn, hb⟩ := hs k hk
  rw [← hl] at hOR
  rcases hOR.form with ⟨e1, e2⟩ | ⟨g, c, cur, e1, e2, e3, -⟩
  · rw [e2] at hl; simp at hl; omega
  · cases e1
    exact ⟨g, rfl, e2, (Array.getElem?_eq_some_iff.1 e3).1, fun j => hOR.frozen j, nv, bv, hn, hb, hOR.cell k 3 (by rw [hl]; exact hk) (by decide) (by rw [e0]; rfl), hOR.cell k 4 (by rw [hl]; exact hk) (by decide) (by rw [e0]; rfl)⟩
/-- a clause of own laws, cell by cell -/
theorem clauses_rec {w : World} {A B n : Nat} {a : Option Addr} {l : List ClauseD} (h : ClausesOwn w A B (.slice a l.length n) l) {k : Nat} (hk : k < l.length) :
    ∃ g na nn ba bn, a = some ⟨g, 0, none⟩ ∧ IntsIn (frmY A 3 w) (.slice na (l.getD k clause0).needs.length nn) (l.getD k clause0).needs ∧ IntsIn (frmY A 3 w) (.slice ba (l.getD k clause0).bars.length bn) (l.getD k clause0).bars ∧
      ∀ j u, (clauseC (l.getD k clause0) (.slice na (l.getD k clause0).needs.length nn) (.slice ba (l.getD k clause0).bars.length bn))[j]? = some u → w.cell? ⟨g, k * 6 + j, none⟩ = some u := by
  obtain ⟨L, hOR, hl, hs⟩ := h
  obtain ⟨nv, bv, e0, hn, hb⟩ := hs k hk
  rw [← hl] at hOR
  rcases hOR.form with ⟨e1, e2⟩ | ⟨g, c, cur, e1, e2, e3, -⟩
  · rw [e2] at hl; simp at hl; omega
  · cases e1
    obtain ⟨na, nn, rfl, -⟩ := id hn
    obtain ⟨ba, bn, rfl, -⟩ := id hb
    refine ⟨g, na, nn, ba, bn, rfl, hn, hb, fun j u hu => ?_⟩
    have hj : j < 6 := (List.getElem?_eq_some_iff.1 hu).1
    exact hOR.cell k j (by rw [hl]; exact hk) hj (by rw [e0]; exact hu)
end Go.Proofs.YtdjldidfnddpmaaGreat
