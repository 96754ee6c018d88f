/- Decide of valid laws; a clause of own laws that gets another list. Conditions: how the laws lie in memory. -/
import Derived.Test.YtdjldidfnddpmaaGreatDoorSjA
import Derived.Test.YtdjldidfnddpmaaGreatDoorAppS
/- The walk of the reference's Made: its second and third loops. Conditions: how the arguments lie in memory; that integers are of 64 bits. -/
namespace Go.Proofs.YtdjldidfnddpmaaGreatDoor
open Go.RowKit
theorem if_le {m a b : Nat} (h : a ≤ if m = 0 then 0 else b) : a ≤ b := by split at h <;> omega
set_option maxRecDepth 100000 in
set_option maxHeartbeats 4000000 in
theorem made_loop2 (w W0 : World) (x : NumsD) (xca xra xfa : Option Addr) (xcn xrn xfn : Nat) (HX : Hid (NumsIn w.cell? (.slice xca x.clauses.length xcn) (.slice xra x.repeals.length xrn) (.slice xfa x.facts.length xfn) x)) (H64 : Hid (Nums64 x)) (hrl : (x.repeals.length : Int) ≤ 9223372036854775807) (ca : Option Addr) (m cc : Nat) (hm : m = (x.clauses.take 8).length)
    (hown : ClausesOwn W0 w.heap.size (w.heap.size + 1 + 1 + 1) (.slice ca m cc) ((x.clauses.take 8).map madeClause)) (bN : Blk W0 w.heap.size [.slice xca x.clauses.length xcn, .slice xra x.repeals.length xrn, .slice xfa x.facts.length xfn] 25) (bR : Blk W0 (w.heap.size + 1) [.slice none 0 0, .slice none 0 0, .slice none 0 0] 32)
    (bC : Blk W0 (w.heap.size + 1 + 1) [.slice ca m cc, .slice none 0 0, .slice none 0 0] 32) (Xb : Below w.heap.size w W0) (hX : w.heap.size + 1 + 1 + 1 ≤ W0.heap.size) (Q0 : Exit → Act → World → Prop) (u0 u4 u5 u6 u8 u9 u10 u11 u12 u13 u14 u15 u16 u17 u18 u19 u20 u21 u22 u23 u24 u25 u26 u27 u28 u29 u30 u31 u32 u33 u34 u35 u36 u37 u38 u39 u40 u41 u42 u43 u44 u45 u46 u47 u48 u49 u50 u51 u52 u53 u54 u55 u56 u57 u58 u59 u60 u61 u62 u63 u64 u65 u66 u67 u68 u69 u70 u71 u72 u73 u74 u75 u76 u77 u78 u79 u80 u81 u82 u83 u84 u85 u86 u87 u88 u89 u90 u91 u92 u93 u94 u95 u96 u97 u98 u99 u100 u101 u102 u103 u104 u105 u106 u107 u108 u109 u110 u111 u112 u113 u114 u115 u116 u117 u118 u119 u120 u121 u122 u123 u124 u125 u126 u127 u128 u129 u130 u131 : Value)
    (hexit : ∀ (t7 t8 t53 t54 t55 t56 t57 t58 t59 t60 t61 t62 t63 t64 t65 t66 t67 t68 t69 t70 t71 t72 t73 t74 t75 t76 t77 t78 t79 t80 t81 t82 t83 t84 t85 t86 t87 t88 t89 t90 t91 t92 : Value) (wr : World) (rv : Value), ClausesOwn wr w.heap.size (w.heap.size + 1 + 1 + 1) (.slice ca m cc) ((x.clauses.take 8).map madeClause) → OwnR wr (w.heap.size + 1 + 1 + 1) 63 3 rv ((madeC x).repeals.map repealC) →
      Blk wr (w.heap.size + 1 + 1) [.slice ca m cc, rv, .slice none 0 0] 32 → Blk wr w.heap.size [.slice xca x.clauses.length xcn, .slice xra x.repeals.length xrn, .slice xfa x.facts.length xfn] 25 → Blk wr (w.heap.size + 1) [.slice none 0 0, .slice none 0 0, .slice none 0 0] 32 → Below w.heap.size w wr → w.heap.size + 1 + 1 + 1 ≤ wr.heap.size →
      Q0 (.exit 2) ⟨#[u0, .pointer (some ⟨w.heap.size, 0, none⟩), .pointer (some ⟨w.heap.size + 1, 0, none⟩), .pointer (some ⟨w.heap.size + 1 + 1, 0, none⟩), u4, u5, u6, t7, t8, u9, u10, u11, u12, u13, u14, u15, u16, u17, u18, u19, u20, u21, u22, u23, u24, u25, u26, u27, u28, u29, u30, u31, u32, u33, u34, u35, u36, u37, u38, u39, u40, u41, u42, u43, u44, u45, u46, u47, u48, u49, u50, u51, u52, t53, t54, t55, t56, t57, t58, t59, t60, t61, t62, t63, t64, t65, t66, t67, t68, t69, t70, t71, t72, t73, t74, t75, t76, t77, t78, t79, t80, t81, t82, t83, t84, t85, t86, t87, t88, t89, t90, t91, t92, u93, u94, u95, u96, u97, u98, u99, u100, u101, u102, u103, u104, u105, u106, u107, u108, u109, u110, u111, u112, u113, u114, u115, u116, u117, u118, u119, u120, u121, u122, u123, u124, u125, u126, u127, u128, u129, u130, u131], []⟩ wr) :
    Code.wp Tryz.prog (Code.loop madeLoop2) Q0 ⟨#[u0, .pointer (some ⟨w.heap.size, 0, none⟩), .pointer (some ⟨w.heap.size + 1, 0, none⟩), .pointer (some ⟨w.heap.size + 1 + 1, 0, none⟩), u4, u5, u6, .int .i64 0, u8, u9, u10, u11, u12, u13, u14, u15, u16, u17, u18, u19, u20, u21, u22, u23, u24, u25, u26, u27, u28, u29, u30, u31, u32, u33, u34, u35, u36, u37, u38, u39, u40, u41, u42, u43, u44, u45, u46, u47, u48, u49, u50, u51, u52, u53, u54, u55, u56, u57, u58, u59, u60, u61, u62, u63, u64, u65, u66, u67, u68, u69, u70, u71, u72, u73, u74, u75, u76, u77, u78, u79, u80, u81, u82, u83, u84, u85, u86, u87, u88, u89, u90, u91, u92, u93, u94, u95, u96, u97, u98, u99, u100, u101, u102, u103, u104, u105, u106, u107, u108, u109, u110, u111, u112, u113, u114, u115, u116, u117, u118, u119, u120, u121, u122, u123, u124, u125, u126, u127, u128, u129, u130, u131], []⟩ W0 := by
  have HM := hide hm
  have hm8 : m ≤ 8 := by rw [hm, List.length_take]; omega
  have HRE : Hid ((madeC x).repeals = if m = 0 then [] else (x.repeals.take 3).map (madeRepeal m)) := hide (by rw [hm]; rfl)
  clear hm
  conv => arg 2; arg 1; whnf
  dsimp only
  go_loopw [7] (fun i wr => ∃ (k : Nat) (rv : Value), k ≤ (if m = 0 then 0 else min x.repeals.length 3) ∧ i = .int .i64 k ∧ ClausesOwn wr w.heap.size (w.heap.size + 1 + 1 + 1) (.slice ca m cc) ((x.clauses.take 8).map madeClause) ∧ OwnR wr (w.heap.size + 1 + 1 + 1) 63 3 rv (((x.repeals.take k).map (madeRepeal m)).map repealC) ∧
    Blk wr (w.heap.size + 1 + 1) [.slice ca m cc, rv, .slice none 0 0] 32 ∧ Blk wr w.heap.size [.slice xca x.clauses.length xcn, .slice xra x.repeals.length xrn, .slice xfa x.facts.length xfn] 25 ∧ Blk wr (w.heap.size + 1) [.slice none 0 0, .slice none 0 0, .slice none 0 0] 32 ∧ Below w.heap.size w wr ∧ w.heap.size + 1 + 1 + 1 ≤ wr.heap.size) (fun i _ => (if m = 0 then 0 else min x.repeals.length 3) - (intOf i).toNat)
  case atStart => exact ⟨0, _, Nat.zero_le _, rfl, hown, OwnR.nil _ _ _ _, bC, bN, bR, Xb, hX⟩
  case round =>
    obtain ⟨k, rv, hk, rfl, hcl, hown, hbC, hbN, hbR, hbr, hsz⟩ := hrel
    have n1 := hbN.cell 1 rfl
    obtain ⟨va, vc, e0⟩ := own_form hown
    have b0 := hbC.cell 0 rfl
    by_cases hlt : k < (if m = 0 then 0 else min x.repeals.length 3)
    · have hm0 : ¬ m = 0 := by intro e; rw [if_pos e] at hlt; omega
      have HK := hide hlt
      rw [if_neg hm0] at hlt
      have hkl : k < x.repeals.length := by omega
      have hk8 : (k : Int) < 3 := by omega
      have hklI : (k : Int) < x.repeals.length := by omega
      have hmI : (0 : Int) < m := by omega
      have hk7 : k < 3 := by omega
      obtain ⟨b, o, e, hck⟩ := (HX.out.re.below hbr).cell hkl
      cases e
      have hy64 := H64.out.re _ (getD_mem x.repeals k (d := (0, 0, 0)) hkl)
      have HTK := hide (take_map_succ (madeRepeal m) x.repeals (0, 0, 0) hkl)
      have HLN : Hid ((((x.repeals.take k).map (madeRepeal m)).map repealC).length ≤ 3) := hide (by rw [List.length_map, List.length_map, List.length_take]; omega)
      generalize x.repeals.getD k (0, 0, 0) = y at hck hy64 HTK
      have c0 := hck 0 _ rfl
      have c1 := hck 1 _ rfl
      have c2 := hck 2 _ rfl
      rw [Nat.add_zero] at c0
      obtain ⟨y1, y2, y3⟩ := hy64
      have HP0 := hide (fun W => pickr_any y.1 m W y1.1 y1.2 (by omega) (by omega))
      have HP1 := hide (fun W => pickr_any y.2.1 100 W y2.1 y2.2 (by decide) (by decide))
      have HP2 := hide (fun W => pickr_any y.2.2 100 W y3.1 y3.2 (by decide) (by decide))
      have HMC : Hid (madeRepeal m y = ⟨pkF y.1 m, pkF y.2.1 100, pkF y.2.2 100⟩) := hide rfl
      generalize madeRepeal m y = Y at HMC HTK
      generalize pkF y.1 m = P0 at *
      generalize pkF y.2.1 100 = P1 at *
      generalize pkF y.2.2 100 = P2 at *
      clear hck y1 y2 y3
      subst e0
      generalize hLr : ((x.repeals.take k).map (madeRepeal m)).map repealC = Lr at *
      have HLr := hide hLr
      clear hLr
      go_wp2_with fail
      generalize hY1 : World.alloc wr _ = Y1
      have zY1 : Y1.heap.size = wr.heap.size + 1 := by rw [← hY1]; simp
      have bY1 : Below wr.heap.size wr Y1 := by rw [← hY1]; exact bal wr _
      have bZ : Blk Y1 (wr.heap.size) (triC y) 76 := by rw [← hY1]; exact Blk.newA wr _ (by first | rfl | simp)
      have Yb := bY1
      have Yz := zY1
      clear hY1 zY1 bY1
      have hOR := hown.later' Yb
      have bC1 := hbC.later Yb
      have hln8 : Lr.length ≤ 3 := HLN.out
      have hYs := Yb.size
      have HBN := hide (hbN.later Yb)
      have HBR := hide (hbR.later Yb)
      have HBB := hide (below2 hbr Yb)
      have HCC := hide (hcl.later Yb)
      clear hbC c0 c1 c2 n1 hbN hbR hown hbr HX H64 bN bR bC Xb hcl b0
      go_wp2_with fail
      refine wp_region_inv [some 75, some 76, some 77, some 78, some 79, some 80, some 81, some 82, some 83, some 84, some 85, some 86, some 87, some 88, some 89, some 90, some 91, some 92, none] (fun L vs W => match vs with | [x0, x1, x2, x3, x4, x5, x6, x7, x8, x9, x10, x11, x12, x13, x14, x15, x16, x17, x18] => (EffY (w.heap.size + 1 + 1 + 1) 63 (w.heap.size + 1 + 1) Y1 W ∧ (L 18 = false → Blk W (w.heap.size + 1 + 1) [.slice ca m cc, .slice va Lr.length vc, .slice none 0 0] 32) ∧ (L 16 = false → OwnR W (w.heap.size + 1 + 1 + 1) 63 3 (.slice va Lr.length vc) Lr)) ∧ (L 0 = true → x0 = .pointer (some ⟨w.heap.size + 1 + 1, 1, none⟩)) ∧ (L 1 = true → x1 = .slice va Lr.length vc) ∧ (L 2 = true → x2 = .pointer (some ⟨wr.heap.size, 0, none⟩)) ∧ (L 3 = true → x3 = .int .i64 y.1) ∧ (L 4 = true → x4 = .pointer (some ⟨w.heap.size + 1 + 1, 0, none⟩)) ∧ (L 5 = true → x5 = .slice ca m cc) ∧ (L 6 = true → x6 = .int .i64 m) ∧ (L 7 = true → x7 = .int .i64 P0) ∧ (L 8 = true → x8 = .pointer (some ⟨wr.heap.size, 1, none⟩)) ∧ (L 9 = true → x9 = .int .i64 y.2.1) ∧ (L 10 = true → x10 = .int .i64 P1) ∧ (L 11 = true → x11 = .pointer (some ⟨wr.heap.size, 2, none⟩)) ∧ (L 12 = true → x12 = .int .i64 y.2.2) ∧ (L 13 = true → x13 = .int .i64 P2) ∧ (L 14 = true → x14 = .agg #[.int .i64 P0, .int .i64 P1, .int .i64 P2]) ∧ (L 15 = true → (L 16 = false → ∃ b0 : Nat, x15 = .slice (some ⟨b0, 0, none⟩) 1 1 ∧ Blk W b0 [.int .i64 P0, .int .i64 P1, .int .i64 P2] 63)) ∧ (L 16 = true → ∃ g1 c1, x16 = .slice (some ⟨g1, 0, none⟩) (Lr.length + 1) c1 ∧ OwnR W (w.heap.size + 1 + 1 + 1) 63 3 x16 (Lr ++ [[.int .i64 P0, .int .i64 P1, .int .i64 P2]])) ∧ (L 17 = true → x17 = .pointer (some ⟨w.heap.size + 1 + 1, 1, none⟩)) ∧ (L 18 = true → (L 1 = true ∧ L 5 = true ∧ L 16 = true) ∧ ∃ g1 c1, x16 = .slice (some ⟨g1, 0, none⟩) (Lr.length + 1) c1 ∧ Blk W (w.heap.size + 1 + 1) [.slice ca m cc, x16, .slice none 0 0] 32) | _ => False) [_, _, _, _, _, _, _, _, _, _, _, _, _, _, _, _, _, _, undef] (by kernel_rfl) (by kernel_rfl) rfl (by simp only [puts, Act.put, List.setIfInBounds_toArray, List.set_cons_zero, List.set_cons_succ] <;> rfl) ?_ ?_ ?_
      · exact ⟨⟨EffY.of_below (Below.refl _ _).drew, fun _ => bC1.later (Below.refl _ _).drew, fun _ => hOR.later' (Below.refl _ _).drew⟩, (fun h => by cases h), (fun h => by cases h), (fun h => by cases h), (fun h => by cases h), (fun h => by cases h), (fun h => by cases h), (fun h => by cases h), (fun h => by cases h), (fun h => by cases h), (fun h => by cases h), (fun h => by cases h), (fun h => by cases h), (fun h => by cases h), (fun h => by cases h), (fun h => by cases h), (fun h => by cases h), (fun h => by cases h), (fun h => by cases h), (fun h => by cases h)⟩
      · refine ⟨?_, ?_, ?_, ?_, ?_, ?_, ?_, ?_, ?_, ?_, ?_, ?_, ?_, ?_, ?_, ?_, ?_, ?_, ?_, trivial⟩
        · intro L vs W hlen hL hD hI K hK
          obtain ⟨x0, x1, x2, x3, x4, x5, x6, x7, x8, x9, x10, x11, x12, x13, x14, x15, x16, x17, x18, rfl⟩ := len19 hlen
          have hG := hI.1
          replace hI := hI.2
          have f0 := hide hI.1
          replace hI := hI.2
          have f1 := hide hI.1
          replace hI := hI.2
          have f2 := hide hI.1
          replace hI := hI.2
          have f3 := hide hI.1
          replace hI := hI.2
          have f4 := hide hI.1
          replace hI := hI.2
          have f5 := hide hI.1
          replace hI := hI.2
          have f6 := hide hI.1
          replace hI := hI.2
          have f7 := hide hI.1
          replace hI := hI.2
          have f8 := hide hI.1
          replace hI := hI.2
          have f9 := hide hI.1
          replace hI := hI.2
          have f10 := hide hI.1
          replace hI := hI.2
          have f11 := hide hI.1
          replace hI := hI.2
          have f12 := hide hI.1
          replace hI := hI.2
          have f13 := hide hI.1
          replace hI := hI.2
          have f14 := hide hI.1
          replace hI := hI.2
          have f15 := hide hI.1
          replace hI := hI.2
          have f16 := hide hI.1
          replace hI := hI.2
          have f17 := hide hI.1
          replace hI := hI.2
          have f18 := hide hI
          clear hI
          have r00 := hG.1.size
          try simp only [puts, Act.put, List.setIfInBounds_toArray, List.set_cons_zero, List.set_cons_succ]
          try go_simp
          exact hK.out _ _ _ (by simp only [puts, Act.put, List.setIfInBounds_toArray, List.set_cons_zero, List.set_cons_succ] <;> rfl) ⟨hG, (fun _ => rfl), (fun h => f1.out h), (fun h => f2.out h), (fun h => f3.out h), (fun h => f4.out h), (fun h => f5.out h), (fun h => f6.out h), (fun h => f7.out h), (fun h => f8.out h), (fun h => f9.out h), (fun h => f10.out h), (fun h => f11.out h), (fun h => f12.out h), (fun h => f13.out h), (fun h => f14.out h), (fun h => f15.out h), (fun h => f16.out h), (fun h => f17.out h), (fun h => f18.out h)⟩
        · intro L vs W hlen hL hD hI K hK
          obtain ⟨x0, x1, x2, x3, x4, x5, x6, x7, x8, x9, x10, x11, x12, x13, x14, x15, x16, x17, x18, rfl⟩ := len19 hlen
          have hG := hI.1
          replace hI := hI.2
          have f0 := hide hI.1
          replace hI := hI.2
          have f1 := hide hI.1
          replace hI := hI.2
          have f2 := hide hI.1
          replace hI := hI.2
          have f3 := hide hI.1
          replace hI := hI.2
          have f4 := hide hI.1
          replace hI := hI.2
          have f5 := hide hI.1
          replace hI := hI.2
          have f6 := hide hI.1
          replace hI := hI.2
          have f7 := hide hI.1
          replace hI := hI.2
          have f8 := hide hI.1
          replace hI := hI.2
          have f9 := hide hI.1
          replace hI := hI.2
          have f10 := hide hI.1
          replace hI := hI.2
          have f11 := hide hI.1
          replace hI := hI.2
          have f12 := hide hI.1
          replace hI := hI.2
          have f13 := hide hI.1
          replace hI := hI.2
          have f14 := hide hI.1
          replace hI := hI.2
          have f15 := hide hI.1
          replace hI := hI.2
          have f16 := hide hI.1
          replace hI := hI.2
          have f17 := hide hI.1
          replace hI := hI.2
          have f18 := hide hI
          clear hI
          have r00 := hG.1.size
          obtain rfl := f0.out (hD.on 0 (by kernel_rfl))
          try simp only [puts, Act.put, List.setIfInBounds_toArray, List.set_cons_zero, List.set_cons_succ]
          have hst : L 18 = false := Bool.eq_false_iff.2 (fun h => absurd ((f18.out h).1.1.symm.trans hL) (by decide))
          have r0 := (hG.2.1 hst).cell 1 rfl
          go_simp
          exact hK.out _ _ _ (by simp only [puts, Act.put, List.setIfInBounds_toArray, List.set_cons_zero, List.set_cons_succ] <;> rfl) ⟨hG, (fun h => f0.out h), (fun _ => rfl), (fun h => f2.out h), (fun h => f3.out h), (fun h => f4.out h), (fun h => f5.out h), (fun h => f6.out h), (fun h => f7.out h), (fun h => f8.out h), (fun h => f9.out h), (fun h => f10.out h), (fun h => f11.out h), (fun h => f12.out h), (fun h => f13.out h), (fun h => f14.out h), (fun h => f15.out h), (fun h => f16.out h), (fun h => f17.out h), (fun h => (fun h => ⟨⟨rfl, h.1.2⟩, h.2⟩) (f18.out h))⟩
        · intro L vs W hlen hL hD hI K hK
          obtain ⟨x0, x1, x2, x3, x4, x5, x6, x7, x8, x9, x10, x11, x12, x13, x14, x15, x16, x17, x18, rfl⟩ := len19 hlen
          have hG := hI.1
          replace hI := hI.2
          have f0 := hide hI.1
          replace hI := hI.2
          have f1 := hide hI.1
          replace hI := hI.2
          have f2 := hide hI.1
          replace hI := hI.2
          have f3 := hide hI.1
          replace hI := hI.2
          have f4 := hide hI.1
          replace hI := hI.2
          have f5 := hide hI.1
          replace hI := hI.2
          have f6 := hide hI.1
          replace hI := hI.2
          have f7 := hide hI.1
          replace hI := hI.2
          have f8 := hide hI.1
          replace hI := hI.2
          have f9 := hide hI.1
          replace hI := hI.2
          have f10 := hide hI.1
          replace hI := hI.2
          have f11 := hide hI.1
          replace hI := hI.2
          have f12 := hide hI.1
          replace hI := hI.2
          have f13 := hide hI.1
          replace hI := hI.2
          have f14 := hide hI.1
          replace hI := hI.2
          have f15 := hide hI.1
          replace hI := hI.2
          have f16 := hide hI.1
          replace hI := hI.2
          have f17 := hide hI.1
          replace hI := hI.2
          have f18 := hide hI
          clear hI
          have r00 := hG.1.size
          try simp only [puts, Act.put, List.setIfInBounds_toArray, List.set_cons_zero, List.set_cons_succ]
          try go_simp
          exact hK.out _ _ _ (by simp only [puts, Act.put, List.setIfInBounds_toArray, List.set_cons_zero, List.set_cons_succ] <;> rfl) ⟨hG, (fun h => f0.out h), (fun h => f1.out h), (fun _ => rfl), (fun h => f3.out h), (fun h => f4.out h), (fun h => f5.out h), (fun h => f6.out h), (fun h => f7.out h), (fun h => f8.out h), (fun h => f9.out h), (fun h => f10.out h), (fun h => f11.out h), (fun h => f12.out h), (fun h => f13.out h), (fun h => f14.out h), (fun h => f15.out h), (fun h => f16.out h), (fun h => f17.out h), (fun h => f18.out h)⟩
        · intro L vs W hlen hL hD hI K hK
          obtain ⟨x0, x1, x2, x3, x4, x5, x6, x7, x8, x9, x10, x11, x12, x13, x14, x15, x16, x17, x18, rfl⟩ := len19 hlen
          have hG := hI.1
          replace hI := hI.2
          have f0 := hide hI.1
          replace hI := hI.2
          have f1 := hide hI.1
          replace hI := hI.2
          have f2 := hide hI.1
          replace hI := hI.2
          have f3 := hide hI.1
          replace hI := hI.2
          have f4 := hide hI.1
          replace hI := hI.2
          have f5 := hide hI.1
          replace hI := hI.2
          have f6 := hide hI.1
          replace hI := hI.2
          have f7 := hide hI.1
          replace hI := hI.2
          have f8 := hide hI.1
          replace hI := hI.2
          have f9 := hide hI.1
          replace hI := hI.2
          have f10 := hide hI.1
          replace hI := hI.2
          have f11 := hide hI.1
          replace hI := hI.2
          have f12 := hide hI.1
          replace hI := hI.2
          have f13 := hide hI.1
          replace hI := hI.2
          have f14 := hide hI.1
          replace hI := hI.2
          have f15 := hide hI.1
          replace hI := hI.2
          have f16 := hide hI.1
          replace hI := hI.2
          have f17 := hide hI.1
          replace hI := hI.2
          have f18 := hide hI
          clear hI
          have r00 := hG.1.size
          obtain rfl := f2.out (hD.on 2 (by kernel_rfl))
          try simp only [puts, Act.put, List.setIfInBounds_toArray, List.set_cons_zero, List.set_cons_succ]
          have r0 := hG.1.cell bZ (show wr.heap.size ≠ w.heap.size + 1 + 1 by omega) (by decide) 0 rfl
          go_simp
          exact hK.out _ _ _ (by simp only [puts, Act.put, List.setIfInBounds_toArray, List.set_cons_zero, List.set_cons_succ] <;> rfl) ⟨hG, (fun h => f0.out h), (fun h => f1.out h), (fun h => f2.out h), (fun _ => rfl), (fun h => f4.out h), (fun h => f5.out h), (fun h => f6.out h), (fun h => f7.out h), (fun h => f8.out h), (fun h => f9.out h), (fun h => f10.out h), (fun h => f11.out h), (fun h => f12.out h), (fun h => f13.out h), (fun h => f14.out h), (fun h => f15.out h), (fun h => f16.out h), (fun h => f17.out h), (fun h => f18.out h)⟩
        · intro L vs W hlen hL hD hI K hK
          obtain ⟨x0, x1, x2, x3, x4, x5, x6, x7, x8, x9, x10, x11, x12, x13, x14, x15, x16, x17, x18, rfl⟩ := len19 hlen
          have hG := hI.1
          replace hI := hI.2
          have f0 := hide hI.1
          replace hI := hI.2
          have f1 := hide hI.1
          replace hI := hI.2
          have f2 := hide hI.1
          replace hI := hI.2
          have f3 := hide hI.1
          replace hI := hI.2
          have f4 := hide hI.1
          replace hI := hI.2
          have f5 := hide hI.1
          replace hI := hI.2
          have f6 := hide hI.1
          replace hI := hI.2
          have f7 := hide hI.1
          replace hI := hI.2
          have f8 := hide hI.1
          replace hI := hI.2
          have f9 := hide hI.1
          replace hI := hI.2
          have f10 := hide hI.1
          replace hI := hI.2
          have f11 := hide hI.1
          replace hI := hI.2
          have f12 := hide hI.1
          replace hI := hI.2
          have f13 := hide hI.1
          replace hI := hI.2
          have f14 := hide hI.1
          replace hI := hI.2
          have f15 := hide hI.1
          replace hI := hI.2
          have f16 := hide hI.1
          replace hI := hI.2
          have f17 := hide hI.1
          replace hI := hI.2
          have f18 := hide hI
          clear hI
          have r00 := hG.1.size
          try simp only [puts, Act.put, List.setIfInBounds_toArray, List.set_cons_zero, List.set_cons_succ]
          try go_simp
          exact hK.out _ _ _ (by simp only [puts, Act.put, List.setIfInBounds_toArray, List.set_cons_zero, List.set_cons_succ] <;> rfl) ⟨hG, (fun h => f0.out h), (fun h => f1.out h), (fun h => f2.out h), (fun h => f3.out h), (fun _ => rfl), (fun h => f5.out h), (fun h => f6.out h), (fun h => f7.out h), (fun h => f8.out h), (fun h => f9.out h), (fun h => f10.out h), (fun h => f11.out h), (fun h => f12.out h), (fun h => f13.out h), (fun h => f14.out h), (fun h => f15.out h), (fun h => f16.out h), (fun h => f17.out h), (fun h => f18.out h)⟩
        · intro L vs W hlen hL hD hI K hK
          obtain ⟨x0, x1, x2, x3, x4, x5, x6, x7, x8, x9, x10, x11, x12, x13, x14, x15, x16, x17, x18, rfl⟩ := len19 hlen
          have hG := hI.1
          replace hI := hI.2
          have f0 := hide hI.1
          replace hI := hI.2
          have f1 := hide hI.1
          replace hI := hI.2
          have f2 := hide hI.1
          replace hI := hI.2
          have f3 := hide hI.1
          replace hI := hI.2
          have f4 := hide hI.1
          replace hI := hI.2
          have f5 := hide hI.1
          replace hI := hI.2
          have f6 := hide hI.1
          replace hI := hI.2
          have f7 := hide hI.1
          replace hI := hI.2
          have f8 := hide hI.1
          replace hI := hI.2
          have f9 := hide hI.1
          replace hI := hI.2
          have f10 := hide hI.1
          replace hI := hI.2
          have f11 := hide hI.1
          replace hI := hI.2
          have f12 := hide hI.1
          replace hI := hI.2
          have f13 := hide hI.1
          replace hI := hI.2
          have f14 := hide hI.1
          replace hI := hI.2
          have f15 := hide hI.1
          replace hI := hI.2
          have f16 := hide hI.1
          replace hI := hI.2
          have f17 := hide hI.1
          replace hI := hI.2
          have f18 := hide hI
          clear hI
          have r00 := hG.1.size
          obtain rfl := f4.out (hD.on 4 (by kernel_rfl))
          try simp only [puts, Act.put, List.setIfInBounds_toArray, List.set_cons_zero, List.set_cons_succ]
          have hst : L 18 = false := Bool.eq_false_iff.2 (fun h => absurd ((f18.out h).1.2.1.symm.trans hL) (by decide))
          have r0 := (hG.2.1 hst).cell 0 rfl
          go_simp
          exact hK.out _ _ _ (by simp only [puts, Act.put, List.setIfInBounds_toArray, List.set_cons_zero, List.set_cons_succ] <;> rfl) ⟨hG, (fun h => f0.out h), (fun h => f1.out h), (fun h => f2.out h), (fun h => f3.out h), (fun h => f4.out h), (fun _ => rfl), (fun h => f6.out h), (fun h => f7.out h), (fun h => f8.out h), (fun h => f9.out h), (fun h => f10.out h), (fun h => f11.out h), (fun h => f12.out h), (fun h => f13.out h), (fun h => f14.out h), (fun h => f15.out h), (fun h => f16.out h), (fun h => f17.out h), (fun h => (fun h => ⟨⟨h.1.1, rfl, h.1.2.2⟩, h.2⟩) (f18.out h))⟩
        · intro L vs W hlen hL hD hI K hK
          obtain ⟨x0, x1, x2, x3, x4, x5, x6, x7, x8, x9, x10, x11, x12, x13, x14, x15, x16, x17, x18, rfl⟩ := len19 hlen
          have hG := hI.1
          replace hI := hI.2
          have f0 := hide hI.1
          replace hI := hI.2
          have f1 := hide hI.1
          replace hI := hI.2
          have f2 := hide hI.1
          replace hI := hI.2
          have f3 := hide hI.1
          replace hI := hI.2
          have f4 := hide hI.1
          replace hI := hI.2
          have f5 := hide hI.1
          replace hI := hI.2
          have f6 := hide hI.1
          replace hI := hI.2
          have f7 := hide hI.1
          replace hI := hI.2
          have f8 := hide hI.1
          replace hI := hI.2
          have f9 := hide hI.1
          replace hI := hI.2
          have f10 := hide hI.1
          replace hI := hI.2
          have f11 := hide hI.1
          replace hI := hI.2
          have f12 := hide hI.1
          replace hI := hI.2
          have f13 := hide hI.1
          replace hI := hI.2
          have f14 := hide hI.1
          replace hI := hI.2
          have f15 := hide hI.1
          replace hI := hI.2
          have f16 := hide hI.1
          replace hI := hI.2
          have f17 := hide hI.1
          replace hI := hI.2
          have f18 := hide hI
          clear hI
          have r00 := hG.1.size
          obtain rfl := f5.out (hD.on 5 (by kernel_rfl))
          try simp only [puts, Act.put, List.setIfInBounds_toArray, List.set_cons_zero, List.set_cons_succ]
          try go_simp
          exact hK.out _ _ _ (by simp only [puts, Act.put, List.setIfInBounds_toArray, List.set_cons_zero, List.set_cons_succ] <;> rfl) ⟨hG, (fun h => f0.out h), (fun h => f1.out h), (fun h => f2.out h), (fun h => f3.out h), (fun h => f4.out h), (fun h => f5.out h), (fun _ => rfl), (fun h => f7.out h), (fun h => f8.out h), (fun h => f9.out h), (fun h => f10.out h), (fun h => f11.out h), (fun h => f12.out h), (fun h => f13.out h), (fun h => f14.out h), (fun h => f15.out h), (fun h => f16.out h), (fun h => f17.out h), (fun h => f18.out h)⟩
        · intro L vs W hlen hL hD hI K hK
          obtain ⟨x0, x1, x2, x3, x4, x5, x6, x7, x8, x9, x10, x11, x12, x13, x14, x15, x16, x17, x18, rfl⟩ := len19 hlen
          have hG := hI.1
          replace hI := hI.2
          have f0 := hide hI.1
          replace hI := hI.2
          have f1 := hide hI.1
          replace hI := hI.2
          have f2 := hide hI.1
          replace hI := hI.2
          have f3 := hide hI.1
          replace hI := hI.2
          have f4 := hide hI.1
          replace hI := hI.2
          have f5 := hide hI.1
          replace hI := hI.2
          have f6 := hide hI.1
          replace hI := hI.2
          have f7 := hide hI.1
          replace hI := hI.2
          have f8 := hide hI.1
          replace hI := hI.2
          have f9 := hide hI.1
          replace hI := hI.2
          have f10 := hide hI.1
          replace hI := hI.2
          have f11 := hide hI.1
          replace hI := hI.2
          have f12 := hide hI.1
          replace hI := hI.2
          have f13 := hide hI.1
          replace hI := hI.2
          have f14 := hide hI.1
          replace hI := hI.2
          have f15 := hide hI.1
          replace hI := hI.2
          have f16 := hide hI.1
          replace hI := hI.2
          have f17 := hide hI.1
          replace hI := hI.2
          have f18 := hide hI
          clear hI
          have r00 := hG.1.size
          obtain rfl := f3.out (hD.on 3 (by kernel_rfl))
          obtain rfl := f6.out (hD.on 6 (by kernel_rfl))
          try simp only [puts, Act.put, List.setIfInBounds_toArray, List.set_cons_zero, List.set_cons_succ]
          try go_simp
          refine (HP0.out _).mono ?_
          rintro e W' ⟨rfl, rfl⟩
          try go_simp
          exact hK.out _ _ _ (by simp only [puts, Act.put, List.setIfInBounds_toArray, List.set_cons_zero, List.set_cons_succ] <;> rfl) ⟨hG, (fun h => f0.out h), (fun h => f1.out h), (fun h => f2.out h), (fun h => f3.out h), (fun h => f4.out h), (fun h => f5.out h), (fun h => f6.out h), (fun _ => rfl), (fun h => f8.out h), (fun h => f9.out h), (fun h => f10.out h), (fun h => f11.out h), (fun h => f12.out h), (fun h => f13.out h), (fun h => f14.out h), (fun h => f15.out h), (fun h => f16.out h), (fun h => f17.out h), (fun h => f18.out h)⟩
        · intro L vs W hlen hL hD hI K hK
          obtain ⟨x0, x1, x2, x3, x4, x5, x6, x7, x8, x9, x10, x11, x12, x13, x14, x15, x16, x17, x18, rfl⟩ := len19 hlen
          have hG := hI.1
          replace hI := hI.2
          have f0 := hide hI.1
          replace hI := hI.2
          have f1 := hide hI.1
          replace hI := hI.2
          have f2 := hide hI.1
          replace hI := hI.2
          have f3 := hide hI.1
          replace hI := hI.2
          have f4 := hide hI.1
          replace hI := hI.2
          have f5 := hide hI.1
          replace hI := hI.2
          have f6 := hide hI.1
          replace hI := hI.2
          have f7 := hide hI.1
          replace hI := hI.2
          have f8 := hide hI.1
          replace hI := hI.2
          have f9 := hide hI.1
          replace hI := hI.2
          have f10 := hide hI.1
          replace hI := hI.2
          have f11 := hide hI.1
          replace hI := hI.2
          have f12 := hide hI.1
          replace hI := hI.2
          have f13 := hide hI.1
          replace hI := hI.2
          have f14 := hide hI.1
          replace hI := hI.2
          have f15 := hide hI.1
          replace hI := hI.2
          have f16 := hide hI.1
          replace hI := hI.2
          have f17 := hide hI.1
          replace hI := hI.2
          have f18 := hide hI
          clear hI
          have r00 := hG.1.size
          try simp only [puts, Act.put, List.setIfInBounds_toArray, List.set_cons_zero, List.set_cons_succ]
          try go_simp
          exact hK.out _ _ _ (by simp only [puts, Act.put, List.setIfInBounds_toArray, List.set_cons_zero, List.set_cons_succ] <;> rfl) ⟨hG, (fun h => f0.out h), (fun h => f1.out h), (fun h => f2.out h), (fun h => f3.out h), (fun h => f4.out h), (fun h => f5.out h), (fun h => f6.out h), (fun h => f7.out h), (fun _ => rfl), (fun h => f9.out h), (fun h => f10.out h), (fun h => f11.out h), (fun h => f12.out h), (fun h => f13.out h), (fun h => f14.out h), (fun h => f15.out h), (fun h => f16.out h), (fun h => f17.out h), (fun h => f18.out h)⟩
        · intro L vs W hlen hL hD hI K hK
          obtain ⟨x0, x1, x2, x3, x4, x5, x6, x7, x8, x9, x10, x11, x12, x13, x14, x15, x16, x17, x18, rfl⟩ := len19 hlen
          have hG := hI.1
          replace hI := hI.2
          have f0 := hide hI.1
          replace hI := hI.2
          have f1 := hide hI.1
          replace hI := hI.2
          have f2 := hide hI.1
          replace hI := hI.2
          have f3 := hide hI.1
          replace hI := hI.2
          have f4 := hide hI.1
          replace hI := hI.2
          have f5 := hide hI.1
          replace hI := hI.2
          have f6 := hide hI.1
          replace hI := hI.2
          have f7 := hide hI.1
          replace hI := hI.2
          have f8 := hide hI.1
          replace hI := hI.2
          have f9 := hide hI.1
          replace hI := hI.2
          have f10 := hide hI.1
          replace hI := hI.2
          have f11 := hide hI.1
          replace hI := hI.2
          have f12 := hide hI.1
          replace hI := hI.2
          have f13 := hide hI.1
          replace hI := hI.2
          have f14 := hide hI.1
          replace hI := hI.2
          have f15 := hide hI.1
          replace hI := hI.2
          have f16 := hide hI.1
          replace hI := hI.2
          have f17 := hide hI.1
          replace hI := hI.2
          have f18 := hide hI
          clear hI
          have r00 := hG.1.size
          obtain rfl := f8.out (hD.on 8 (by kernel_rfl))
          try simp only [puts, Act.put, List.setIfInBounds_toArray, List.set_cons_zero, List.set_cons_succ]
          have r0 := hG.1.cell bZ (show wr.heap.size ≠ w.heap.size + 1 + 1 by omega) (by decide) 1 rfl
          go_simp
          exact hK.out _ _ _ (by simp only [puts, Act.put, List.setIfInBounds_toArray, List.set_cons_zero, List.set_cons_succ] <;> rfl) ⟨hG, (fun h => f0.out h), (fun h => f1.out h), (fun h => f2.out h), (fun h => f3.out h), (fun h => f4.out h), (fun h => f5.out h), (fun h => f6.out h), (fun h => f7.out h), (fun h => f8.out h), (fun _ => rfl), (fun h => f10.out h), (fun h => f11.out h), (fun h => f12.out h), (fun h => f13.out h), (fun h => f14.out h), (fun h => f15.out h), (fun h => f16.out h), (fun h => f17.out h), (fun h => f18.out h)⟩
        · intro L vs W hlen hL hD hI K hK
          obtain ⟨x0, x1, x2, x3, x4, x5, x6, x7, x8, x9, x10, x11, x12, x13, x14, x15, x16, x17, x18, rfl⟩ := len19 hlen
          have hG := hI.1
          replace hI := hI.2
          have f0 := hide hI.1
          replace hI := hI.2
          have f1 := hide hI.1
          replace hI := hI.2
          have f2 := hide hI.1
          replace hI := hI.2
          have f3 := hide hI.1
          replace hI := hI.2
          have f4 := hide hI.1
          replace hI := hI.2
          have f5 := hide hI.1
          replace hI := hI.2
          have f6 := hide hI.1
          replace hI := hI.2
          have f7 := hide hI.1
          replace hI := hI.2
          have f8 := hide hI.1
          replace hI := hI.2
          have f9 := hide hI.1
          replace hI := hI.2
          have f10 := hide hI.1
          replace hI := hI.2
          have f11 := hide hI.1
          replace hI := hI.2
          have f12 := hide hI.1
          replace hI := hI.2
          have f13 := hide hI.1
          replace hI := hI.2
          have f14 := hide hI.1
          replace hI := hI.2
          have f15 := hide hI.1
          replace hI := hI.2
          have f16 := hide hI.1
          replace hI := hI.2
          have f17 := hide hI.1
          replace hI := hI.2
          have f18 := hide hI
          clear hI
          have r00 := hG.1.size
          obtain rfl := f9.out (hD.on 9 (by kernel_rfl))
          try simp only [puts, Act.put, List.setIfInBounds_toArray, List.set_cons_zero, List.set_cons_succ]
          try go_simp
          refine (HP1.out _).mono ?_
          rintro e W' ⟨rfl, rfl⟩
          try go_simp
          exact hK.out _ _ _ (by simp only [puts, Act.put, List.setIfInBounds_toArray, List.set_cons_zero, List.set_cons_succ] <;> rfl) ⟨hG, (fun h => f0.out h), (fun h => f1.out h), (fun h => f2.out h), (fun h => f3.out h), (fun h => f4.out h), (fun h => f5.out h), (fun h => f6.out h), (fun h => f7.out h), (fun h => f8.out h), (fun h => f9.out h), (fun _ => rfl), (fun h => f11.out h), (fun h => f12.out h), (fun h => f13.out h), (fun h => f14.out h), (fun h => f15.out h), (fun h => f16.out h), (fun h => f17.out h), (fun h => f18.out h)⟩
        · intro L vs W hlen hL hD hI K hK
          obtain ⟨x0, x1, x2, x3, x4, x5, x6, x7, x8, x9, x10, x11, x12, x13, x14, x15, x16, x17, x18, rfl⟩ := len19 hlen
          have hG := hI.1
          replace hI := hI.2
          have f0 := hide hI.1
          replace hI := hI.2
          have f1 := hide hI.1
          replace hI := hI.2
          have f2 := hide hI.1
          replace hI := hI.2
          have f3 := hide hI.1
          replace hI := hI.2
          have f4 := hide hI.1
          replace hI := hI.2
          have f5 := hide hI.1
          replace hI := hI.2
          have f6 := hide hI.1
          replace hI := hI.2
          have f7 := hide hI.1
          replace hI := hI.2
          have f8 := hide hI.1
          replace hI := hI.2
          have f9 := hide hI.1
          replace hI := hI.2
          have f10 := hide hI.1
          replace hI := hI.2
          have f11 := hide hI.1
          replace hI := hI.2
          have f12 := hide hI.1
          replace hI := hI.2
          have f13 := hide hI.1
          replace hI := hI.2
          have f14 := hide hI.1
          replace hI := hI.2
          have f15 := hide hI.1
          replace hI := hI.2
          have f16 := hide hI.1
          replace hI := hI.2
          have f17 := hide hI.1
          replace hI := hI.2
          have f18 := hide hI
          clear hI
          have r00 := hG.1.size
          try simp only [puts, Act.put, List.setIfInBounds_toArray, List.set_cons_zero, List.set_cons_succ]
          try go_simp
          exact hK.out _ _ _ (by simp only [puts, Act.put, List.setIfInBounds_toArray, List.set_cons_zero, List.set_cons_succ] <;> rfl) ⟨hG, (fun h => f0.out h), (fun h => f1.out h), (fun h => f2.out h), (fun h => f3.out h), (fun h => f4.out h), (fun h => f5.out h), (fun h => f6.out h), (fun h => f7.out h), (fun h => f8.out h), (fun h => f9.out h), (fun h => f10.out h), (fun _ => rfl), (fun h => f12.out h), (fun h => f13.out h), (fun h => f14.out h), (fun h => f15.out h), (fun h => f16.out h), (fun h => f17.out h), (fun h => f18.out h)⟩
        · intro L vs W hlen hL hD hI K hK
          obtain ⟨x0, x1, x2, x3, x4, x5, x6, x7, x8, x9, x10, x11, x12, x13, x14, x15, x16, x17, x18, rfl⟩ := len19 hlen
          have hG := hI.1
          replace hI := hI.2
          have f0 := hide hI.1
          replace hI := hI.2
          have f1 := hide hI.1
          replace hI := hI.2
          have f2 := hide hI.1
          replace hI := hI.2
          have f3 := hide hI.1
          replace hI := hI.2
          have f4 := hide hI.1
          replace hI := hI.2
          have f5 := hide hI.1
          replace hI := hI.2
          have f6 := hide hI.1
          replace hI := hI.2
          have f7 := hide hI.1
          replace hI := hI.2
          have f8 := hide hI.1
          replace hI := hI.2
          have f9 := hide hI.1
          replace hI := hI.2
          have f10 := hide hI.1
          replace hI := hI.2
          have f11 := hide hI.1
          replace hI := hI.2
          have f12 := hide hI.1
          replace hI := hI.2
          have f13 := hide hI.1
          replace hI := hI.2
          have f14 := hide hI.1
          replace hI := hI.2
          have f15 := hide hI.1
          replace hI := hI.2
          have f16 := hide hI.1
          replace hI := hI.2
          have f17 := hide hI.1
          replace hI := hI.2
          have f18 := hide hI
          clear hI
          have r00 := hG.1.size
          obtain rfl := f11.out (hD.on 11 (by kernel_rfl))
          try simp only [puts, Act.put, List.setIfInBounds_toArray, List.set_cons_zero, List.set_cons_succ]
          have r0 := hG.1.cell bZ (show wr.heap.size ≠ w.heap.size + 1 + 1 by omega) (by decide) 2 rfl
          go_simp
          exact hK.out _ _ _ (by simp only [puts, Act.put, List.setIfInBounds_toArray, List.set_cons_zero, List.set_cons_succ] <;> rfl) ⟨hG, (fun h => f0.out h), (fun h => f1.out h), (fun h => f2.out h), (fun h => f3.out h), (fun h => f4.out h), (fun h => f5.out h), (fun h => f6.out h), (fun h => f7.out h), (fun h => f8.out h), (fun h => f9.out h), (fun h => f10.out h), (fun h => f11.out h), (fun _ => rfl), (fun h => f13.out h), (fun h => f14.out h), (fun h => f15.out h), (fun h => f16.out h), (fun h => f17.out h), (fun h => f18.out h)⟩
        · intro L vs W hlen hL hD hI K hK
          obtain ⟨x0, x1, x2, x3, x4, x5, x6, x7, x8, x9, x10, x11, x12, x13, x14, x15, x16, x17, x18, rfl⟩ := len19 hlen
          have hG := hI.1
          replace hI := hI.2
          have f0 := hide hI.1
          replace hI := hI.2
          have f1 := hide hI.1
          replace hI := hI.2
          have f2 := hide hI.1
          replace hI := hI.2
          have f3 := hide hI.1
          replace hI := hI.2
          have f4 := hide hI.1
          replace hI := hI.2
          have f5 := hide hI.1
          replace hI := hI.2
          have f6 := hide hI.1
          replace hI := hI.2
          have f7 := hide hI.1
          replace hI := hI.2
          have f8 := hide hI.1
          replace hI := hI.2
          have f9 := hide hI.1
          replace hI := hI.2
          have f10 := hide hI.1
          replace hI := hI.2
          have f11 := hide hI.1
          replace hI := hI.2
          have f12 := hide hI.1
          replace hI := hI.2
          have f13 := hide hI.1
          replace hI := hI.2
          have f14 := hide hI.1
          replace hI := hI.2
          have f15 := hide hI.1
          replace hI := hI.2
          have f16 := hide hI.1
          replace hI := hI.2
          have f17 := hide hI.1
          replace hI := hI.2
          have f18 := hide hI
          clear hI
          have r00 := hG.1.size
          obtain rfl := f12.out (hD.on 12 (by kernel_rfl))
          try simp only [puts, Act.put, List.setIfInBounds_toArray, List.set_cons_zero, List.set_cons_succ]
          try go_simp
          refine (HP2.out _).mono ?_
          rintro e W' ⟨rfl, rfl⟩
          try go_simp
          exact hK.out _ _ _ (by simp only [puts, Act.put, List.setIfInBounds_toArray, List.set_cons_zero, List.set_cons_succ] <;> rfl) ⟨hG, (fun h => f0.out h), (fun h => f1.out h), (fun h => f2.out h), (fun h => f3.out h), (fun h => f4.out h), (fun h => f5.out h), (fun h => f6.out h), (fun h => f7.out h), (fun h => f8.out h), (fun h => f9.out h), (fun h => f10.out h), (fun h => f11.out h), (fun h => f12.out h), (fun _ => rfl), (fun h => f14.out h), (fun h => f15.out h), (fun h => f16.out h), (fun h => f17.out h), (fun h => f18.out h)⟩
        · intro L vs W hlen hL hD hI K hK
          obtain ⟨x0, x1, x2, x3, x4, x5, x6, x7, x8, x9, x10, x11, x12, x13, x14, x15, x16, x17, x18, rfl⟩ := len19 hlen
          have hG := hI.1
          replace hI := hI.2
          have f0 := hide hI.1
          replace hI := hI.2
          have f1 := hide hI.1
          replace hI := hI.2
          have f2 := hide hI.1
          replace hI := hI.2
          have f3 := hide hI.1
          replace hI := hI.2
          have f4 := hide hI.1
          replace hI := hI.2
          have f5 := hide hI.1
          replace hI := hI.2
          have f6 := hide hI.1
          replace hI := hI.2
          have f7 := hide hI.1
          replace hI := hI.2
          have f8 := hide hI.1
          replace hI := hI.2
          have f9 := hide hI.1
          replace hI := hI.2
          have f10 := hide hI.1
          replace hI := hI.2
          have f11 := hide hI.1
          replace hI := hI.2
          have f12 := hide hI.1
          replace hI := hI.2
          have f13 := hide hI.1
          replace hI := hI.2
          have f14 := hide hI.1
          replace hI := hI.2
          have f15 := hide hI.1
          replace hI := hI.2
          have f16 := hide hI.1
          replace hI := hI.2
          have f17 := hide hI.1
          replace hI := hI.2
          have f18 := hide hI
          clear hI
          have r00 := hG.1.size
          obtain rfl := f7.out (hD.on 7 (by kernel_rfl))
          obtain rfl := f10.out (hD.on 10 (by kernel_rfl))
          obtain rfl := f13.out (hD.on 13 (by kernel_rfl))
          try simp only [puts, Act.put, List.setIfInBounds_toArray, List.set_cons_zero, List.set_cons_succ]
          try go_simp
          exact hK.out _ _ _ (by simp only [puts, Act.put, List.setIfInBounds_toArray, List.set_cons_zero, List.set_cons_succ] <;> rfl) ⟨hG, (fun h => f0.out h), (fun h => f1.out h), (fun h => f2.out h), (fun h => f3.out h), (fun h => f4.out h), (fun h => f5.out h), (fun h => f6.out h), (fun h => f7.out h), (fun h => f8.out h), (fun h => f9.out h), (fun h => f10.out h), (fun h => f11.out h), (fun h => f12.out h), (fun h => f13.out h), (fun _ => rfl), (fun h => f15.out h), (fun h => f16.out h), (fun h => f17.out h), (fun h => f18.out h)⟩
        · intro L vs W hlen hL hD hI K hK
          obtain ⟨x0, x1, x2, x3, x4, x5, x6, x7, x8, x9, x10, x11, x12, x13, x14, x15, x16, x17, x18, rfl⟩ := len19 hlen
          have hG := hI.1
          replace hI := hI.2
          have f0 := hide hI.1
          replace hI := hI.2
          have f1 := hide hI.1
          replace hI := hI.2
          have f2 := hide hI.1
          replace hI := hI.2
          have f3 := hide hI.1
          replace hI := hI.2
          have f4 := hide hI.1
          replace hI := hI.2
          have f5 := hide hI.1
          replace hI := hI.2
          have f6 := hide hI.1
          replace hI := hI.2
          have f7 := hide hI.1
          replace hI := hI.2
          have f8 := hide hI.1
          replace hI := hI.2
          have f9 := hide hI.1
          replace hI := hI.2
          have f10 := hide hI.1
          replace hI := hI.2
          have f11 := hide hI.1
          replace hI := hI.2
          have f12 := hide hI.1
          replace hI := hI.2
          have f13 := hide hI.1
          replace hI := hI.2
          have f14 := hide hI.1
          replace hI := hI.2
          have f15 := hide hI.1
          replace hI := hI.2
          have f16 := hide hI.1
          replace hI := hI.2
          have f17 := hide hI.1
          replace hI := hI.2
          have f18 := hide hI
          clear hI
          have r00 := hG.1.size
          obtain rfl := f14.out (hD.on 14 (by kernel_rfl))
          try simp only [puts, Act.put, List.setIfInBounds_toArray, List.set_cons_zero, List.set_cons_succ]
          go_simp
          generalize hW' : World.alloc W _ = W'
          have hb : Below W.heap.size W W' := by rw [← hW']; exact bal W _
          exact hK.out _ _ _ (by simp only [puts, Act.put, List.setIfInBounds_toArray, List.set_cons_zero, List.set_cons_succ] <;> rfl) ⟨⟨hG.1.then hb, fun h => (hG.2.1 h).later hb, fun h => (hG.2.2 h).later' hb⟩, (fun h => f0.out h), (fun h => f1.out h), (fun h => f2.out h), (fun h => f3.out h), (fun h => f4.out h), (fun h => f5.out h), (fun h => f6.out h), (fun h => f7.out h), (fun h => f8.out h), (fun h => f9.out h), (fun h => f10.out h), (fun h => f11.out h), (fun h => f12.out h), (fun h => f13.out h), (fun h => f14.out h), (fun _ => fun _ => ⟨W.heap.size, rfl, by rw [← hW']; exact Blk.newA W _ rfl⟩), (fun h => (fun h => let ⟨g1, c1, e, ho⟩ := h; ⟨g1, c1, e, ho.later' hb⟩) (f16.out h)), (fun h => f17.out h), (fun h => (fun h => ⟨h.1, let ⟨g1, c1, e, hk⟩ := h.2; ⟨g1, c1, e, hk.later hb⟩⟩) (f18.out h))⟩
        · intro L vs W hlen hL hD hI K hK
          obtain ⟨x0, x1, x2, x3, x4, x5, x6, x7, x8, x9, x10, x11, x12, x13, x14, x15, x16, x17, x18, rfl⟩ := len19 hlen
          have hG := hI.1
          replace hI := hI.2
          have f0 := hide hI.1
          replace hI := hI.2
          have f1 := hide hI.1
          replace hI := hI.2
          have f2 := hide hI.1
          replace hI := hI.2
          have f3 := hide hI.1
          replace hI := hI.2
          have f4 := hide hI.1
          replace hI := hI.2
          have f5 := hide hI.1
          replace hI := hI.2
          have f6 := hide hI.1
          replace hI := hI.2
          have f7 := hide hI.1
          replace hI := hI.2
          have f8 := hide hI.1
          replace hI := hI.2
          have f9 := hide hI.1
          replace hI := hI.2
          have f10 := hide hI.1
          replace hI := hI.2
          have f11 := hide hI.1
          replace hI := hI.2
          have f12 := hide hI.1
          replace hI := hI.2
          have f13 := hide hI.1
          replace hI := hI.2
          have f14 := hide hI.1
          replace hI := hI.2
          have f15 := hide hI.1
          replace hI := hI.2
          have f16 := hide hI.1
          replace hI := hI.2
          have f17 := hide hI.1
          replace hI := hI.2
          have f18 := hide hI
          clear hI
          have r00 := hG.1.size
          obtain rfl := f1.out (hD.on 1 (by kernel_rfl))
          have g15 := f15.out (hD.on 15 (by kernel_rfl))
          try simp only [puts, Act.put, List.setIfInBounds_toArray, List.set_cons_zero, List.set_cons_succ]
          obtain ⟨b0, rfl, hB0⟩ := g15 hL
          refine step_one infoRepeal rfl (by decide) Tryz.underlying29 rfl _ _ rfl (w.heap.size + 1 + 1 + 1) _ Lr rfl (hG.2.2 hL) b0 _ rfl hB0 rfl (repealC_one (x := ⟨P0, P1, P2⟩)) (by omega) (by omega) (by omega) ?_
          intro g1 c1 W' hO' hE'
          have hb : True := trivial
          exact hK.out _ _ _ (by simp only [puts, Act.put, List.setIfInBounds_toArray, List.set_cons_zero, List.set_cons_succ] <;> rfl) ⟨⟨hG.1.app hE', fun h => hE'.blk (hG.2.1 h) (by decide), fun h => (by cases h)⟩, (fun h => f0.out h), (fun h => f1.out h), (fun h => f2.out h), (fun h => f3.out h), (fun h => f4.out h), (fun h => f5.out h), (fun h => f6.out h), (fun h => f7.out h), (fun h => f8.out h), (fun h => f9.out h), (fun h => f10.out h), (fun h => f11.out h), (fun h => f12.out h), (fun h => f13.out h), (fun h => f14.out h), (fun h => (fun h => (fun h21 => by cases h21)) (f15.out h)), (fun _ => ⟨g1, c1, rfl, hO'⟩), (fun h => f17.out h), (fun h => (fun h => absurd (h.1.2.2.symm.trans hL) (by decide)) (f18.out h))⟩
        · intro L vs W hlen hL hD hI K hK
          obtain ⟨x0, x1, x2, x3, x4, x5, x6, x7, x8, x9, x10, x11, x12, x13, x14, x15, x16, x17, x18, rfl⟩ := len19 hlen
          have hG := hI.1
          replace hI := hI.2
          have f0 := hide hI.1
          replace hI := hI.2
          have f1 := hide hI.1
          replace hI := hI.2
          have f2 := hide hI.1
          replace hI := hI.2
          have f3 := hide hI.1
          replace hI := hI.2
          have f4 := hide hI.1
          replace hI := hI.2
          have f5 := hide hI.1
          replace hI := hI.2
          have f6 := hide hI.1
          replace hI := hI.2
          have f7 := hide hI.1
          replace hI := hI.2
          have f8 := hide hI.1
          replace hI := hI.2
          have f9 := hide hI.1
          replace hI := hI.2
          have f10 := hide hI.1
          replace hI := hI.2
          have f11 := hide hI.1
          replace hI := hI.2
          have f12 := hide hI.1
          replace hI := hI.2
          have f13 := hide hI.1
          replace hI := hI.2
          have f14 := hide hI.1
          replace hI := hI.2
          have f15 := hide hI.1
          replace hI := hI.2
          have f16 := hide hI.1
          replace hI := hI.2
          have f17 := hide hI.1
          replace hI := hI.2
          have f18 := hide hI
          clear hI
          have r00 := hG.1.size
          try simp only [puts, Act.put, List.setIfInBounds_toArray, List.set_cons_zero, List.set_cons_succ]
          try go_simp
          exact hK.out _ _ _ (by simp only [puts, Act.put, List.setIfInBounds_toArray, List.set_cons_zero, List.set_cons_succ] <;> rfl) ⟨hG, (fun h => f0.out h), (fun h => f1.out h), (fun h => f2.out h), (fun h => f3.out h), (fun h => f4.out h), (fun h => f5.out h), (fun h => f6.out h), (fun h => f7.out h), (fun h => f8.out h), (fun h => f9.out h), (fun h => f10.out h), (fun h => f11.out h), (fun h => f12.out h), (fun h => f13.out h), (fun h => f14.out h), (fun h => f15.out h), (fun h => f16.out h), (fun _ => rfl), (fun h => f18.out h)⟩
        · intro L vs W hlen hL hD hI K hK
          obtain ⟨x0, x1, x2, x3, x4, x5, x6, x7, x8, x9, x10, x11, x12, x13, x14, x15, x16, x17, x18, rfl⟩ := len19 hlen
          have hG := hI.1
          replace hI := hI.2
          have f0 := hide hI.1
          replace hI := hI.2
          have f1 := hide hI.1
          replace hI := hI.2
          have f2 := hide hI.1
          replace hI := hI.2
          have f3 := hide hI.1
          replace hI := hI.2
          have f4 := hide hI.1
          replace hI := hI.2
          have f5 := hide hI.1
          replace hI := hI.2
          have f6 := hide hI.1
          replace hI := hI.2
          have f7 := hide hI.1
          replace hI := hI.2
          have f8 := hide hI.1
          replace hI := hI.2
          have f9 := hide hI.1
          replace hI := hI.2
          have f10 := hide hI.1
          replace hI := hI.2
          have f11 := hide hI.1
          replace hI := hI.2
          have f12 := hide hI.1
          replace hI := hI.2
          have f13 := hide hI.1
          replace hI := hI.2
          have f14 := hide hI.1
          replace hI := hI.2
          have f15 := hide hI.1
          replace hI := hI.2
          have f16 := hide hI.1
          replace hI := hI.2
          have f17 := hide hI.1
          replace hI := hI.2
          have f18 := hide hI
          clear hI
          have r00 := hG.1.size
          obtain rfl := f1.out (hD.on 1 (by kernel_rfl))
          have g16 := f16.out (hD.on 16 (by kernel_rfl))
          obtain rfl := f17.out (hD.on 17 (by kernel_rfl))
          try simp only [puts, Act.put, List.setIfInBounds_toArray, List.set_cons_zero, List.set_cons_succ]
          obtain ⟨g1, c1, rfl, hO1⟩ := g16
          have bC0 := hG.2.1 hL
          have z0 := bC0.frozen 1
          have z1 := bC0.cell 1 rfl
          go_simp
          have hb : True := trivial
          exact hK.out _ undef _ (by simp only [puts, Act.put, List.setIfInBounds_toArray, List.set_cons_zero, List.set_cons_succ] <;> rfl) ⟨⟨hG.1.set 1 _, fun h => (by cases h), fun h => absurd (h.symm.trans (hD.on 16 (by kernel_rfl))) (by decide)⟩, (fun h => f0.out h), (fun h => f1.out h), (fun h => f2.out h), (fun h => f3.out h), (fun h => f4.out h), (fun h => f5.out h), (fun h => f6.out h), (fun h => f7.out h), (fun h => f8.out h), (fun h => f9.out h), (fun h => f10.out h), (fun h => f11.out h), (fun h => f12.out h), (fun h => f13.out h), (fun h => f14.out h), (fun h => (fun h => (fun h21 => absurd (h21.symm.trans (hD.on 16 (by kernel_rfl))) (by decide))) (f15.out h)), (fun h => (fun h => let ⟨g2, c2, e, ho⟩ := h; ⟨g2, c2, e, ho.setO bC0 (by decide) _⟩) (f16.out h)), (fun h => f17.out h), (fun _ => ⟨⟨hD.on 1 (by kernel_rfl), hD.on 5 (by kernel_rfl), hD.on 16 (by kernel_rfl)⟩, g1, c1, rfl, bC0.set 1 _⟩)⟩
      intro L vs W hlen hall hI
      obtain ⟨x0, x1, x2, x3, x4, x5, x6, x7, x8, x9, x10, x11, x12, x13, x14, x15, x16, x17, x18, rfl⟩ := len19 hlen
      have hG := hI.1
      replace hI := hI.2
      have f0 := hide hI.1
      replace hI := hI.2
      have f1 := hide hI.1
      replace hI := hI.2
      have f2 := hide hI.1
      replace hI := hI.2
      have f3 := hide hI.1
      replace hI := hI.2
      have f4 := hide hI.1
      replace hI := hI.2
      have f5 := hide hI.1
      replace hI := hI.2
      have f6 := hide hI.1
      replace hI := hI.2
      have f7 := hide hI.1
      replace hI := hI.2
      have f8 := hide hI.1
      replace hI := hI.2
      have f9 := hide hI.1
      replace hI := hI.2
      have f10 := hide hI.1
      replace hI := hI.2
      have f11 := hide hI.1
      replace hI := hI.2
      have f12 := hide hI.1
      replace hI := hI.2
      have f13 := hide hI.1
      replace hI := hI.2
      have f14 := hide hI.1
      replace hI := hI.2
      have f15 := hide hI.1
      replace hI := hI.2
      have f16 := hide hI.1
      replace hI := hI.2
      have f17 := hide hI.1
      replace hI := hI.2
      have f18 := hide hI
      clear hI
      obtain rfl := f0.out (hall 0 (by decide))
      obtain rfl := f1.out (hall 1 (by decide))
      obtain rfl := f2.out (hall 2 (by decide))
      obtain rfl := f3.out (hall 3 (by decide))
      obtain rfl := f4.out (hall 4 (by decide))
      obtain rfl := f5.out (hall 5 (by decide))
      obtain rfl := f6.out (hall 6 (by decide))
      obtain rfl := f7.out (hall 7 (by decide))
      obtain rfl := f8.out (hall 8 (by decide))
      obtain rfl := f9.out (hall 9 (by decide))
      obtain rfl := f10.out (hall 10 (by decide))
      obtain rfl := f11.out (hall 11 (by decide))
      obtain rfl := f12.out (hall 12 (by decide))
      obtain rfl := f13.out (hall 13 (by decide))
      obtain rfl := f14.out (hall 14 (by decide))
      have g15 := f15.out (hall 15 (by decide))
      have g16 := f16.out (hall 16 (by decide))
      obtain rfl := f17.out (hall 17 (by decide))
      have g18 := f18.out (hall 18 (by decide))
      have hal := hide hall
      clear hall f0 f1 f2 f3 f4 f5 f6 f7 f8 f9 f10 f11 f12 f13 f14 f15 f16 f17 f18
      try simp only [puts, Act.put, List.setIfInBounds_toArray, List.set_cons_zero, List.set_cons_succ]
      obtain ⟨g1, c1, e21, hO21⟩ := g16
      obtain ⟨-, g2, c2, e22, hC23⟩ := g18
      have HN2 := hide (hG.1.blk HBN.out (show w.heap.size ≠ w.heap.size + 1 + 1 by omega) (by decide))
      have HR2 := hide (hG.1.blk HBR.out (show w.heap.size + 1 ≠ w.heap.size + 1 + 1 by omega) (by decide))
      have HB2 := hide (keeps_low_effY hG.1 (show w.heap.size ≤ w.heap.size + 1 + 1 + 1 by omega) (show w.heap.size ≤ w.heap.size + 1 + 1 by omega) HBB.out)
      have HCL := hide (HCC.out.kept hG.1 bC1 (by decide) (by decide) (by decide) (by decide))
      have HS2 : Hid (w.heap.size + 1 + 1 + 1 ≤ W.heap.size) := hide (by have := hG.1.size; omega)
      have HOR := hide hO21
      have HC2 := hide hC23
      clear hO21 hC23 hG bZ hOR bC1 hal
      subst e21
      clear e22
      go_wp2_with fail
      go_roundw
      case rel => exact ⟨k + 1, _, by have := HK.out; omega, by go_num, HCL.out, by rw [HTK.out, HMC.out, List.map_append, HLr.out]; exact HOR.out, HC2.out, HN2.out, HR2.out, HB2.out, HS2.out⟩
      case measure => have := HK.out; simp [intOf]; omega
    · have hT : ((x.repeals.take k).map (madeRepeal m)) = (madeC x).repeals := by
        rw [HRE.out]
        by_cases hm0 : m = 0
        · rw [if_pos hm0] at hk ⊢
          obtain rfl : k = 0 := by omega
          rfl
        · rw [if_neg hm0] at hk hlt ⊢
          have hkk : k = min x.repeals.length 3 := by omega
          congr 1
          rcases Nat.le_total x.repeals.length 3 with h8 | h8
          · rw [Nat.min_eq_left h8] at hkk
            rw [List.take_of_length_le (by omega), List.take_of_length_le h8]
          · rw [Nat.min_eq_right h8] at hkk
            rw [hkk]
      have hlts : ¬ (k : Int) < x.repeals.length ∨ ((k : Int) < x.repeals.length ∧ ¬ (k : Int) < 3) ∨ ((k : Int) < x.repeals.length ∧ (k : Int) < 3 ∧ m = 0) := by
        by_cases hm0 : m = 0
        · omega
        · rw [if_neg hm0] at hlt; omega
      rw [hT] at hown
      have HO := hide hown
      clear hT hown hlt hk
      rcases hlts with hlt3 | ⟨hlt3, hlt4⟩ | ⟨hlt3, hlt4, rfl⟩
      all_goals (
        go_wp2_with fail
        exact hexit _ _ _ _ _ _ _ _ _ _ _ _ _ _ _ _ _ _ _ _ _ _ _ _ _ _ _ _ _ _ _ _ _ _ _ _ _ _ _ _ _ _ wr rv hcl HO.out hbC hbN hbR hbr hsz)
set_option maxRecDepth 100000 in
set_option maxHeartbeats 4000000 in
theorem made_loop3 (w W0 : World) (x : NumsD) (xca xra xfa : Option Addr) (xcn xrn xfn : Nat) (HX : Hid (NumsIn w.cell? (.slice xca x.clauses.length xcn) (.slice xra x.repeals.length xrn) (.slice xfa x.facts.length xfn) x)) (H64 : Hid (Nums64 x)) (hfl : (x.facts.length : Int) ≤ 9223372036854775807) (ca : Option Addr) (m cc : Nat) (ra : Option Addr) (rm rc : Nat)
    (hown : ClausesOwn W0 w.heap.size (w.heap.size + 1 + 1 + 1) (.slice ca m cc) ((x.clauses.take 8).map madeClause)) (hre : OwnR W0 (w.heap.size + 1 + 1 + 1) 63 3 (.slice ra rm rc) ((madeC x).repeals.map repealC)) (bN : Blk W0 w.heap.size [.slice xca x.clauses.length xcn, .slice xra x.repeals.length xrn, .slice xfa x.facts.length xfn] 25) (bR : Blk W0 (w.heap.size + 1) [.slice none 0 0, .slice none 0 0, .slice none 0 0] 32)
    (bC : Blk W0 (w.heap.size + 1 + 1) [.slice ca m cc, .slice ra rm rc, .slice none 0 0] 32) (Xb : Below w.heap.size w W0) (hX : w.heap.size + 1 + 1 + 1 ≤ W0.heap.size) (Q0 : Exit → Act → World → Prop) (u0 u4 u5 u6 u7 u8 u10 u11 u12 u13 u14 u15 u16 u17 u18 u19 u20 u21 u22 u23 u24 u25 u26 u27 u28 u29 u30 u31 u32 u33 u34 u35 u36 u37 u38 u39 u40 u41 u42 u43 u44 u45 u46 u47 u48 u49 u50 u51 u52 u53 u54 u55 u56 u57 u58 u59 u60 u61 u62 u63 u64 u65 u66 u67 u68 u69 u70 u71 u72 u73 u74 u75 u76 u77 u78 u79 u80 u81 u82 u83 u84 u85 u86 u87 u88 u89 u90 u91 u92 u93 u94 u95 u96 u97 u98 u99 u100 u101 u102 u103 u104 u105 u106 u107 u108 u109 u110 u111 u112 u113 u114 u115 u116 u117 u118 u119 u120 u121 u122 u123 u124 u125 u126 u127 u128 u129 u130 u131 : Value)
    (hexit : ∀ (t9 t10 t93 t94 t95 t96 t97 t98 t99 t100 t101 t102 t103 t104 t105 t106 t107 t108 t109 t110 t111 t112 t113 t114 t115 t116 t117 t118 t119 t120 t121 t122 t123 t124 t125 t126 t127 t128 t129 t130 : Value) (wr : World) (fv : Value), CodeOwn wr w.heap.size (w.heap.size + 1 + 1 + 1) (.slice ca m cc) (.slice ra rm rc) fv (madeC x) →
      Blk wr (w.heap.size + 1 + 1) [.slice ca m cc, .slice ra rm rc, fv] 32 → Blk wr w.heap.size [.slice xca x.clauses.length xcn, .slice xra x.repeals.length xrn, .slice xfa x.facts.length xfn] 25 → Blk wr (w.heap.size + 1) [.slice none 0 0, .slice none 0 0, .slice none 0 0] 32 → Below w.heap.size w wr → w.heap.size + 1 + 1 + 1 ≤ wr.heap.size →
      Q0 (.exit 4) ⟨#[u0, .pointer (some ⟨w.heap.size, 0, none⟩), .pointer (some ⟨w.heap.size + 1, 0, none⟩), .pointer (some ⟨w.heap.size + 1 + 1, 0, none⟩), u4, u5, u6, u7, u8, t9, t10, u11, u12, u13, u14, u15, u16, u17, u18, u19, u20, u21, u22, u23, u24, u25, u26, u27, u28, u29, u30, u31, u32, u33, u34, u35, u36, u37, u38, u39, u40, u41, u42, u43, u44, u45, u46, u47, u48, u49, u50, u51, u52, u53, u54, u55, u56, u57, u58, u59, u60, u61, u62, u63, u64, u65, u66, u67, u68, u69, u70, u71, u72, u73, u74, u75, u76, u77, u78, u79, u80, u81, u82, u83, u84, u85, u86, u87, u88, u89, u90, u91, u92, t93, t94, t95, t96, t97, t98, t99, t100, t101, t102, t103, t104, t105, t106, t107, t108, t109, t110, t111, t112, t113, t114, t115, t116, t117, t118, t119, t120, t121, t122, t123, t124, t125, t126, t127, t128, t129, t130, u131], []⟩ wr) :
    Code.wp Tryz.prog (Code.loop madeLoop3) Q0 ⟨#[u0, .pointer (some ⟨w.heap.size, 0, none⟩), .pointer (some ⟨w.heap.size + 1, 0, none⟩), .pointer (some ⟨w.heap.size + 1 + 1, 0, none⟩), u4, u5, u6, u7, u8, .int .i64 0, u10, u11, u12, u13, u14, u15, u16, u17, u18, u19, u20, u21, u22, u23, u24, u25, u26, u27, u28, u29, u30, u31, u32, u33, u34, u35, u36, u37, u38, u39, u40, u41, u42, u43, u44, u45, u46, u47, u48, u49, u50, u51, u52, u53, u54, u55, u56, u57, u58, u59, u60, u61, u62, u63, u64, u65, u66, u67, u68, u69, u70, u71, u72, u73, u74, u75, u76, u77, u78, u79, u80, u81, u82, u83, u84, u85, u86, u87, u88, u89, u90, u91, u92, u93, u94, u95, u96, u97, u98, u99, u100, u101, u102, u103, u104, u105, u106, u107, u108, u109, u110, u111, u112, u113, u114, u115, u116, u117, u118, u119, u120, u121, u122, u123, u124, u125, u126, u127, u128, u129, u130, u131], []⟩ W0 := by
  conv => arg 2; arg 1; whnf
  dsimp only
  go_loopw [9] (fun i wr => ∃ (k : Nat) (fv : Value), k ≤ min x.facts.length 8 ∧ i = .int .i64 k ∧ ClausesOwn wr w.heap.size (w.heap.size + 1 + 1 + 1) (.slice ca m cc) ((x.clauses.take 8).map madeClause) ∧ OwnR wr (w.heap.size + 1 + 1 + 1) 63 3 (.slice ra rm rc) ((madeC x).repeals.map repealC) ∧ OwnR wr (w.heap.size + 1 + 1 + 1) 49 6 fv (((x.facts.take k).map madeFact).map factC) ∧
    Blk wr (w.heap.size + 1 + 1) [.slice ca m cc, .slice ra rm rc, fv] 32 ∧ Blk wr w.heap.size [.slice xca x.clauses.length xcn, .slice xra x.repeals.length xrn, .slice xfa x.facts.length xfn] 25 ∧ Blk wr (w.heap.size + 1) [.slice none 0 0, .slice none 0 0, .slice none 0 0] 32 ∧ Below w.heap.size w wr ∧ w.heap.size + 1 + 1 + 1 ≤ wr.heap.size) (fun i _ => min x.facts.length 8 - (intOf i).toNat)
  case atStart => exact ⟨0, _, Nat.zero_le _, rfl, hown, hre, OwnR.nil _ _ _ _, bC, bN, bR, Xb, hX⟩
  case round =>
    obtain ⟨k, fv, hk, rfl, hcl, hre, hown, hbC, hbN, hbR, hbr, hsz⟩ := hrel
    have n2 := hbN.cell 2 rfl
    obtain ⟨va, vc, e0⟩ := own_form hown
    by_cases hlt : k < min x.facts.length 8
    · have HK := hide hlt
      have hkl : k < x.facts.length := by omega
      have hk8 : (k : Int) < 8 := by omega
      have hklI : (k : Int) < x.facts.length := by omega
      have hk7 : k < 8 := by omega
      obtain ⟨b, o, e, hck⟩ := (HX.out.fa.below hbr).cell hkl
      cases e
      have hy64 := H64.out.fa _ (getD_mem x.facts k (d := six0) hkl)
      have HTK := hide (take_map_succ madeFact x.facts six0 hkl)
      have HLN : Hid ((((x.facts.take k).map madeFact).map factC).length ≤ 8) := hide (by rw [List.length_map, List.length_map, List.length_take]; omega)
      generalize x.facts.getD k six0 = y at hck hy64 HTK
      have c0 := hck 0 _ rfl
      have c1 := hck 1 _ rfl
      have c2 := hck 2 _ rfl
      have c3 := hck 3 _ rfl
      have c4 := hck 4 _ rfl
      have c5 := hck 5 _ rfl
      rw [Nat.add_zero] at c0
      obtain ⟨y1, y2, y3, y4, y5, y6⟩ := hy64
      have HP0 := hide (fun W => pickr_any y.a 3 W y1.1 y1.2 (by decide) (by decide))
      have HP1 := hide (fun W => pickr_any y.b 6 W y2.1 y2.2 (by decide) (by decide))
      have HS := hide (fun W => partr_any y.c y.d W y3 y4)
      have HT := hide (fun W => partr_any y.e y.f W y5 y6)
      have HMC : Hid (madeFact y = ⟨pkF y.a 3, pkF y.b 6, pkF y.c 50, partL y.c y.d, pkF y.e 50, partL y.e y.f⟩) := hide rfl
      generalize madeFact y = Y at HMC HTK
      generalize pkF y.a 3 = P0 at *
      generalize pkF y.b 6 = P1 at *
      generalize pkF y.c 50 = S0 at *
      generalize partL y.c y.d = S1 at *
      generalize pkF y.e 50 = T0 at *
      generalize partL y.e y.f = T1 at *
      clear hck y1 y2 y3 y4 y5 y6
      subst e0
      generalize hLr : ((x.facts.take k).map madeFact).map factC = Lr at *
      have HLr := hide hLr
      clear hLr
      go_wp2_with fail
      generalize hY1 : World.alloc wr _ = Y1
      have zY1 : Y1.heap.size = wr.heap.size + 1 := by rw [← hY1]; simp
      have bY1 : Below wr.heap.size wr Y1 := by rw [← hY1]; exact bal wr _
      have bZ : Blk Y1 (wr.heap.size) (sixC y) 72 := by rw [← hY1]; exact Blk.newA wr _ (by first | rfl | simp)
      have Yb := bY1
      have Yz := zY1
      clear hY1 zY1 bY1
      have hOR := hown.later' Yb
      have bC1 := hbC.later Yb
      have hln8 : Lr.length ≤ 8 := HLN.out
      have hYs := Yb.size
      have HBN := hide (hbN.later Yb)
      have HBR := hide (hbR.later Yb)
      have HBB := hide (below2 hbr Yb)
      have HCC := hide (hcl.later Yb)
      have HRR := hide (hre.later' Yb)
      clear hbC c0 c1 c2 c3 c4 c5 n2 hbN hbR hown hbr HX H64 bN bR bC Xb hcl hre
      go_wp2_with fail
      refine wp_region_inv [some 109, some 110, some 111, some 112, some 113, some 114, some 115, some 116, some 117, some 118, some 119, some 120, some 121, some 122, some 123, some 124, some 125, some 126, some 127, some 128, some 129, some 130, none] (fun L vs W => match vs with | [x0, x1, x2, x3, x4, x5, x6, x7, x8, x9, x10, x11, x12, x13, x14, x15, x16, x17, x18, x19, x20, x21, x22] => (EffY (w.heap.size + 1 + 1 + 1) 49 (w.heap.size + 1 + 1) Y1 W ∧ (L 22 = false → Blk W (w.heap.size + 1 + 1) [.slice ca m cc, .slice ra rm rc, .slice va Lr.length vc] 32) ∧ (L 20 = false → OwnR W (w.heap.size + 1 + 1 + 1) 49 6 (.slice va Lr.length vc) Lr)) ∧ (L 0 = true → x0 = .pointer (some ⟨w.heap.size + 1 + 1, 2, none⟩)) ∧ (L 1 = true → x1 = .slice va Lr.length vc) ∧ (L 2 = true → x2 = .pointer (some ⟨wr.heap.size, 0, none⟩)) ∧ (L 3 = true → x3 = .int .i64 y.a) ∧ (L 4 = true → x4 = .int .i64 P0) ∧ (L 5 = true → x5 = .pointer (some ⟨wr.heap.size, 1, none⟩)) ∧ (L 6 = true → x6 = .int .i64 y.b) ∧ (L 7 = true → x7 = .int .i64 P1) ∧ (L 8 = true → x8 = .pointer (some ⟨wr.heap.size, 2, none⟩)) ∧ (L 9 = true → x9 = .int .i64 y.c) ∧ (L 10 = true → x10 = .pointer (some ⟨wr.heap.size, 3, none⟩)) ∧ (L 11 = true → x11 = .int .i64 y.d) ∧ (L 12 = true → x12 = .agg #[.int .i64 S0, .int .i64 S1]) ∧ (L 13 = true → x13 = .pointer (some ⟨wr.heap.size, 4, none⟩)) ∧ (L 14 = true → x14 = .int .i64 y.e) ∧ (L 15 = true → x15 = .pointer (some ⟨wr.heap.size, 5, none⟩)) ∧ (L 16 = true → x16 = .int .i64 y.f) ∧ (L 17 = true → x17 = .agg #[.int .i64 T0, .int .i64 T1]) ∧ (L 18 = true → x18 = .agg #[.int .i64 P0, .int .i64 P1, .int .i64 S0, .int .i64 S1, .int .i64 T0, .int .i64 T1]) ∧ (L 19 = true → (L 20 = false → ∃ b0 : Nat, x19 = .slice (some ⟨b0, 0, none⟩) 1 1 ∧ Blk W b0 [.int .i64 P0, .int .i64 P1, .int .i64 S0, .int .i64 S1, .int .i64 T0, .int .i64 T1] 49)) ∧ (L 20 = true → ∃ g1 c1, x20 = .slice (some ⟨g1, 0, none⟩) (Lr.length + 1) c1 ∧ OwnR W (w.heap.size + 1 + 1 + 1) 49 6 x20 (Lr ++ [[.int .i64 P0, .int .i64 P1, .int .i64 S0, .int .i64 S1, .int .i64 T0, .int .i64 T1]])) ∧ (L 21 = true → x21 = .pointer (some ⟨w.heap.size + 1 + 1, 2, none⟩)) ∧ (L 22 = true → (L 1 = true ∧ L 20 = true) ∧ ∃ g1 c1, x20 = .slice (some ⟨g1, 0, none⟩) (Lr.length + 1) c1 ∧ Blk W (w.heap.size + 1 + 1) [.slice ca m cc, .slice ra rm rc, x20] 32) | _ => False) [_, _, _, _, _, _, _, _, _, _, _, _, _, _, _, _, _, _, _, _, _, _, undef] (by kernel_rfl) (by kernel_rfl) rfl (by simp only [puts, Act.put, List.setIfInBounds_toArray, List.set_cons_zero, List.set_cons_succ] <;> rfl) ?_ ?_ ?_
      · exact ⟨⟨EffY.of_below (Below.refl _ _).drew, fun _ => bC1.later (Below.refl _ _).drew, fun _ => hOR.later' (Below.refl _ _).drew⟩, (fun h => by cases h), (fun h => by cases h), (fun h => by cases h), (fun h => by cases h), (fun h => by cases h), (fun h => by cases h), (fun h => by cases h), (fun h => by cases h), (fun h => by cases h), (fun h => by cases h), (fun h => by cases h), (fun h => by cases h), (fun h => by cases h), (fun h => by cases h), (fun h => by cases h), (fun h => by cases h), (fun h => by cases h), (fun h => by cases h), (fun h => by cases h), (fun h => by cases h), (fun h => by cases h), (fun h => by cases h), (fun h => by cases h)⟩
      · refine ⟨?_, ?_, ?_, ?_, ?_, ?_, ?_, ?_, ?_, ?_, ?_, ?_, ?_, ?_, ?_, ?_, ?_, ?_, ?_, ?_, ?_, ?_, ?_, trivial⟩
        · intro L vs W hlen hL hD hI K hK
          obtain ⟨x0, x1, x2, x3, x4, x5, x6, x7, x8, x9, x10, x11, x12, x13, x14, x15, x16, x17, x18, x19, x20, x21, x22, rfl⟩ := len23 hlen
          have hG := hI.1
          replace hI := hI.2
          have f0 := hide hI.1
          replace hI := hI.2
          have f1 := hide hI.1
          replace hI := hI.2
          have f2 := hide hI.1
          replace hI := hI.2
          have f3 := hide hI.1
          replace hI := hI.2
          have f4 := hide hI.1
          replace hI := hI.2
          have f5 := hide hI.1
          replace hI := hI.2
          have f6 := hide hI.1
          replace hI := hI.2
          have f7 := hide hI.1
          replace hI := hI.2
          have f8 := hide hI.1
          replace hI := hI.2
          have f9 := hide hI.1
          replace hI := hI.2
          have f10 := hide hI.1
          replace hI := hI.2
          have f11 := hide hI.1
          replace hI := hI.2
          have f12 := hide hI.1
          replace hI := hI.2
          have f13 := hide hI.1
          replace hI := hI.2
          have f14 := hide hI.1
          replace hI := hI.2
          have f15 := hide hI.1
          replace hI := hI.2
          have f16 := hide hI.1
          replace hI := hI.2
          have f17 := hide hI.1
          replace hI := hI.2
          have f18 := hide hI.1
          replace hI := hI.2
          have f19 := hide hI.1
          replace hI := hI.2
          have f20 := hide hI.1
          replace hI := hI.2
          have f21 := hide hI.1
          replace hI := hI.2
          have f22 := hide hI
          clear hI
          have r00 := hG.1.size
          try simp only [puts, Act.put, List.setIfInBounds_toArray, List.set_cons_zero, List.set_cons_succ]
          try go_simp
          exact hK.out _ _ _ (by simp only [puts, Act.put, List.setIfInBounds_toArray, List.set_cons_zero, List.set_cons_succ] <;> rfl) ⟨hG, (fun _ => rfl), (fun h => f1.out h), (fun h => f2.out h), (fun h => f3.out h), (fun h => f4.out h), (fun h => f5.out h), (fun h => f6.out h), (fun h => f7.out h), (fun h => f8.out h), (fun h => f9.out h), (fun h => f10.out h), (fun h => f11.out h), (fun h => f12.out h), (fun h => f13.out h), (fun h => f14.out h), (fun h => f15.out h), (fun h => f16.out h), (fun h => f17.out h), (fun h => f18.out h), (fun h => f19.out h), (fun h => f20.out h), (fun h => f21.out h), (fun h => f22.out h)⟩
        · intro L vs W hlen hL hD hI K hK
          obtain ⟨x0, x1, x2, x3, x4, x5, x6, x7, x8, x9, x10, x11, x12, x13, x14, x15, x16, x17, x18, x19, x20, x21, x22, rfl⟩ := len23 hlen
          have hG := hI.1
          replace hI := hI.2
          have f0 := hide hI.1
          replace hI := hI.2
          have f1 := hide hI.1
          replace hI := hI.2
          have f2 := hide hI.1
          replace hI := hI.2
          have f3 := hide hI.1
          replace hI := hI.2
          have f4 := hide hI.1
          replace hI := hI.2
          have f5 := hide hI.1
          replace hI := hI.2
          have f6 := hide hI.1
          replace hI := hI.2
          have f7 := hide hI.1
          replace hI := hI.2
          have f8 := hide hI.1
          replace hI := hI.2
          have f9 := hide hI.1
          replace hI := hI.2
          have f10 := hide hI.1
          replace hI := hI.2
          have f11 := hide hI.1
          replace hI := hI.2
          have f12 := hide hI.1
          replace hI := hI.2
          have f13 := hide hI.1
          replace hI := hI.2
          have f14 := hide hI.1
          replace hI := hI.2
          have f15 := hide hI.1
          replace hI := hI.2
          have f16 := hide hI.1
          replace hI := hI.2
          have f17 := hide hI.1
          replace hI := hI.2
          have f18 := hide hI.1
          replace hI := hI.2
          have f19 := hide hI.1
          replace hI := hI.2
          have f20 := hide hI.1
          replace hI := hI.2
          have f21 := hide hI.1
          replace hI := hI.2
          have f22 := hide hI
          clear hI
          have r00 := hG.1.size
          obtain rfl := f0.out (hD.on 0 (by kernel_rfl))
          try simp only [puts, Act.put, List.setIfInBounds_toArray, List.set_cons_zero, List.set_cons_succ]
          have hst : L 22 = false := Bool.eq_false_iff.2 (fun h => absurd ((f22.out h).1.1.symm.trans hL) (by decide))
          have r0 := (hG.2.1 hst).cell 2 rfl
          go_simp
          exact hK.out _ _ _ (by simp only [puts, Act.put, List.setIfInBounds_toArray, List.set_cons_zero, List.set_cons_succ] <;> rfl) ⟨hG, (fun h => f0.out h), (fun _ => rfl), (fun h => f2.out h), (fun h => f3.out h), (fun h => f4.out h), (fun h => f5.out h), (fun h => f6.out h), (fun h => f7.out h), (fun h => f8.out h), (fun h => f9.out h), (fun h => f10.out h), (fun h => f11.out h), (fun h => f12.out h), (fun h => f13.out h), (fun h => f14.out h), (fun h => f15.out h), (fun h => f16.out h), (fun h => f17.out h), (fun h => f18.out h), (fun h => f19.out h), (fun h => f20.out h), (fun h => f21.out h), (fun h => (fun h => ⟨⟨rfl, h.1.2⟩, h.2⟩) (f22.out h))⟩
        · intro L vs W hlen hL hD hI K hK
          obtain ⟨x0, x1, x2, x3, x4, x5, x6, x7, x8, x9, x10, x11, x12, x13, x14, x15, x16, x17, x18, x19, x20, x21, x22, rfl⟩ := len23 hlen
          have hG := hI.1
          replace hI := hI.2
          have f0 := hide hI.1
          replace hI := hI.2
          have f1 := hide hI.1
          replace hI := hI.2
          have f2 := hide hI.1
          replace hI := hI.2
          have f3 := hide hI.1
          replace hI := hI.2
          have f4 := hide hI.1
          replace hI := hI.2
          have f5 := hide hI.1
          replace hI := hI.2
          have f6 := hide hI.1
          replace hI := hI.2
          have f7 := hide hI.1
          replace hI := hI.2
          have f8 := hide hI.1
          replace hI := hI.2
          have f9 := hide hI.1
          replace hI := hI.2
          have f10 := hide hI.1
          replace hI := hI.2
          have f11 := hide hI.1
          replace hI := hI.2
          have f12 := hide hI.1
          replace hI := hI.2
          have f13 := hide hI.1
          replace hI := hI.2
          have f14 := hide hI.1
          replace hI := hI.2
          have f15 := hide hI.1
          replace hI := hI.2
          have f16 := hide hI.1
          replace hI := hI.2
          have f17 := hide hI.1
          replace hI := hI.2
          have f18 := hide hI.1
          replace hI := hI.2
          have f19 := hide hI.1
          replace hI := hI.2
          have f20 := hide hI.1
          replace hI := hI.2
          have f21 := hide hI.1
          replace hI := hI.2
          have f22 := hide hI
          clear hI
          have r00 := hG.1.size
          try simp only [puts, Act.put, List.setIfInBounds_toArray, List.set_cons_zero, List.set_cons_succ]
          try go_simp
          exact hK.out _ _ _ (by simp only [puts, Act.put, List.setIfInBounds_toArray, List.set_cons_zero, List.set_cons_succ] <;> rfl) ⟨hG, (fun h => f0.out h), (fun h => f1.out h), (fun _ => rfl), (fun h => f3.out h), (fun h => f4.out h), (fun h => f5.out h), (fun h => f6.out h), (fun h => f7.out h), (fun h => f8.out h), (fun h => f9.out h), (fun h => f10.out h), (fun h => f11.out h), (fun h => f12.out h), (fun h => f13.out h), (fun h => f14.out h), (fun h => f15.out h), (fun h => f16.out h), (fun h => f17.out h), (fun h => f18.out h), (fun h => f19.out h), (fun h => f20.out h), (fun h => f21.out h), (fun h => f22.out h)⟩
        · intro L vs W hlen hL hD hI K hK
          obtain ⟨x0, x1, x2, x3, x4, x5, x6, x7, x8, x9, x10, x11, x12, x13, x14, x15, x16, x17, x18, x19, x20, x21, x22, rfl⟩ := len23 hlen
          have hG := hI.1
          replace hI := hI.2
          have f0 := hide hI.1
          replace hI := hI.2
          have f1 := hide hI.1
          replace hI := hI.2
          have f2 := hide hI.1
          replace hI := hI.2
          have f3 := hide hI.1
          replace hI := hI.2
          have f4 := hide hI.1
          replace hI := hI.2
          have f5 := hide hI.1
          replace hI := hI.2
          have f6 := hide hI.1
          replace hI := hI.2
          have f7 := hide hI.1
          replace hI := hI.2
          have f8 := hide hI.1
          replace hI := hI.2
          have f9 := hide hI.1
          replace hI := hI.2
          have f10 := hide hI.1
          replace hI := hI.2
          have f11 := hide hI.1
          replace hI := hI.2
          have f12 := hide hI.1
          replace hI := hI.2
          have f13 := hide hI.1
          replace hI := hI.2
          have f14 := hide hI.1
          replace hI := hI.2
          have f15 := hide hI.1
          replace hI := hI.2
          have f16 := hide hI.1
          replace hI := hI.2
          have f17 := hide hI.1
          replace hI := hI.2
          have f18 := hide hI.1
          replace hI := hI.2
          have f19 := hide hI.1
          replace hI := hI.2
          have f20 := hide hI.1
          replace hI := hI.2
          have f21 := hide hI.1
          replace hI := hI.2
          have f22 := hide hI
          clear hI
          have r00 := hG.1.size
          obtain rfl := f2.out (hD.on 2 (by kernel_rfl))
          try simp only [puts, Act.put, List.setIfInBounds_toArray, List.set_cons_zero, List.set_cons_succ]
          have r0 := hG.1.cell bZ (show wr.heap.size ≠ w.heap.size + 1 + 1 by omega) (by decide) 0 rfl
          go_simp
          exact hK.out _ _ _ (by simp only [puts, Act.put, List.setIfInBounds_toArray, List.set_cons_zero, List.set_cons_succ] <;> rfl) ⟨hG, (fun h => f0.out h), (fun h => f1.out h), (fun h => f2.out h), (fun _ => rfl), (fun h => f4.out h), (fun h => f5.out h), (fun h => f6.out h), (fun h => f7.out h), (fun h => f8.out h), (fun h => f9.out h), (fun h => f10.out h), (fun h => f11.out h), (fun h => f12.out h), (fun h => f13.out h), (fun h => f14.out h), (fun h => f15.out h), (fun h => f16.out h), (fun h => f17.out h), (fun h => f18.out h), (fun h => f19.out h), (fun h => f20.out h), (fun h => f21.out h), (fun h => f22.out h)⟩
        · intro L vs W hlen hL hD hI K hK
          obtain ⟨x0, x1, x2, x3, x4, x5, x6, x7, x8, x9, x10, x11, x12, x13, x14, x15, x16, x17, x18, x19, x20, x21, x22, rfl⟩ := len23 hlen
          have hG := hI.1
          replace hI := hI.2
          have f0 := hide hI.1
          replace hI := hI.2
          have f1 := hide hI.1
          replace hI := hI.2
          have f2 := hide hI.1
          replace hI := hI.2
          have f3 := hide hI.1
          replace hI := hI.2
          have f4 := hide hI.1
          replace hI := hI.2
          have f5 := hide hI.1
          replace hI := hI.2
          have f6 := hide hI.1
          replace hI := hI.2
          have f7 := hide hI.1
          replace hI := hI.2
          have f8 := hide hI.1
          replace hI := hI.2
          have f9 := hide hI.1
          replace hI := hI.2
          have f10 := hide hI.1
          replace hI := hI.2
          have f11 := hide hI.1
          replace hI := hI.2
          have f12 := hide hI.1
          replace hI := hI.2
          have f13 := hide hI.1
          replace hI := hI.2
          have f14 := hide hI.1
          replace hI := hI.2
          have f15 := hide hI.1
          replace hI := hI.2
          have f16 := hide hI.1
          replace hI := hI.2
          have f17 := hide hI.1
          replace hI := hI.2
          have f18 := hide hI.1
          replace hI := hI.2
          have f19 := hide hI.1
          replace hI := hI.2
          have f20 := hide hI.1
          replace hI := hI.2
          have f21 := hide hI.1
          replace hI := hI.2
          have f22 := hide hI
          clear hI
          have r00 := hG.1.size
          obtain rfl := f3.out (hD.on 3 (by kernel_rfl))
          try simp only [puts, Act.put, List.setIfInBounds_toArray, List.set_cons_zero, List.set_cons_succ]
          try go_simp
          refine (HP0.out _).mono ?_
          rintro e W' ⟨rfl, rfl⟩
          try go_simp
          exact hK.out _ _ _ (by simp only [puts, Act.put, List.setIfInBounds_toArray, List.set_cons_zero, List.set_cons_succ] <;> rfl) ⟨hG, (fun h => f0.out h), (fun h => f1.out h), (fun h => f2.out h), (fun h => f3.out h), (fun _ => rfl), (fun h => f5.out h), (fun h => f6.out h), (fun h => f7.out h), (fun h => f8.out h), (fun h => f9.out h), (fun h => f10.out h), (fun h => f11.out h), (fun h => f12.out h), (fun h => f13.out h), (fun h => f14.out h), (fun h => f15.out h), (fun h => f16.out h), (fun h => f17.out h), (fun h => f18.out h), (fun h => f19.out h), (fun h => f20.out h), (fun h => f21.out h), (fun h => f22.out h)⟩
        · intro L vs W hlen hL hD hI K hK
          obtain ⟨x0, x1, x2, x3, x4, x5, x6, x7, x8, x9, x10, x11, x12, x13, x14, x15, x16, x17, x18, x19, x20, x21, x22, rfl⟩ := len23 hlen
          have hG := hI.1
          replace hI := hI.2
          have f0 := hide hI.1
          replace hI := hI.2
          have f1 := hide hI.1
          replace hI := hI.2
          have f2 := hide hI.1
          replace hI := hI.2
          have f3 := hide hI.1
          replace hI := hI.2
          have f4 := hide hI.1
          replace hI := hI.2
          have f5 := hide hI.1
          replace hI := hI.2
          have f6 := hide hI.1
          replace hI := hI.2
          have f7 := hide hI.1
          replace hI := hI.2
          have f8 := hide hI.1
          replace hI := hI.2
          have f9 := hide hI.1
          replace hI := hI.2
          have f10 := hide hI.1
          replace hI := hI.2
          have f11 := hide hI.1
          replace hI := hI.2
          have f12 := hide hI.1
          replace hI := hI.2
          have f13 := hide hI.1
          replace hI := hI.2
          have f14 := hide hI.1
          replace hI := hI.2
          have f15 := hide hI.1
          replace hI := hI.2
          have f16 := hide hI.1
          replace hI := hI.2
          have f17 := hide hI.1
          replace hI := hI.2
          have f18 := hide hI.1
          replace hI := hI.2
          have f19 := hide hI.1
          replace hI := hI.2
          have f20 := hide hI.1
          replace hI := hI.2
          have f21 := hide hI.1
          replace hI := hI.2
          have f22 := hide hI
          clear hI
          have r00 := hG.1.size
          try simp only [puts, Act.put, List.setIfInBounds_toArray, List.set_cons_zero, List.set_cons_succ]
          try go_simp
          exact hK.out _ _ _ (by simp only [puts, Act.put, List.setIfInBounds_toArray, List.set_cons_zero, List.set_cons_succ] <;> rfl) ⟨hG, (fun h => f0.out h), (fun h => f1.out h), (fun h => f2.out h), (fun h => f3.out h), (fun h => f4.out h), (fun _ => rfl), (fun h => f6.out h), (fun h => f7.out h), (fun h => f8.out h), (fun h => f9.out h), (fun h => f10.out h), (fun h => f11.out h), (fun h => f12.out h), (fun h => f13.out h), (fun h => f14.out h), (fun h => f15.out h), (fun h => f16.out h), (fun h => f17.out h), (fun h => f18.out h), (fun h => f19.out h), (fun h => f20.out h), (fun h => f21.out h), (fun h => f22.out h)⟩
        · intro L vs W hlen hL hD hI K hK
          obtain ⟨x0, x1, x2, x3, x4, x5, x6, x7, x8, x9, x10, x11, x12, x13, x14, x15, x16, x17, x18, x19, x20, x21, x22, rfl⟩ := len23 hlen
          have hG := hI.1
          replace hI := hI.2
          have f0 := hide hI.1
          replace hI := hI.2
          have f1 := hide hI.1
          replace hI := hI.2
          have f2 := hide hI.1
          replace hI := hI.2
          have f3 := hide hI.1
          replace hI := hI.2
          have f4 := hide hI.1
          replace hI := hI.2
          have f5 := hide hI.1
          replace hI := hI.2
          have f6 := hide hI.1
          replace hI := hI.2
          have f7 := hide hI.1
          replace hI := hI.2
          have f8 := hide hI.1
          replace hI := hI.2
          have f9 := hide hI.1
          replace hI := hI.2
          have f10 := hide hI.1
          replace hI := hI.2
          have f11 := hide hI.1
          replace hI := hI.2
          have f12 := hide hI.1
          replace hI := hI.2
          have f13 := hide hI.1
          replace hI := hI.2
          have f14 := hide hI.1
          replace hI := hI.2
          have f15 := hide hI.1
          replace hI := hI.2
          have f16 := hide hI.1
          replace hI := hI.2
          have f17 := hide hI.1
          replace hI := hI.2
          have f18 := hide hI.1
          replace hI := hI.2
          have f19 := hide hI.1
          replace hI := hI.2
          have f20 := hide hI.1
          replace hI := hI.2
          have f21 := hide hI.1
          replace hI := hI.2
          have f22 := hide hI
          clear hI
          have r00 := hG.1.size
          obtain rfl := f5.out (hD.on 5 (by kernel_rfl))
          try simp only [puts, Act.put, List.setIfInBounds_toArray, List.set_cons_zero, List.set_cons_succ]
          have r0 := hG.1.cell bZ (show wr.heap.size ≠ w.heap.size + 1 + 1 by omega) (by decide) 1 rfl
          go_simp
          exact hK.out _ _ _ (by simp only [puts, Act.put, List.setIfInBounds_toArray, List.set_cons_zero, List.set_cons_succ] <;> rfl) ⟨hG, (fun h => f0.out h), (fun h => f1.out h), (fun h => f2.out h), (fun h => f3.out h), (fun h => f4.out h), (fun h => f5.out h), (fun _ => rfl), (fun h => f7.out h), (fun h => f8.out h), (fun h => f9.out h), (fun h => f10.out h), (fun h => f11.out h), (fun h => f12.out h), (fun h => f13.out h), (fun h => f14.out h), (fun h => f15.out h), (fun h => f16.out h), (fun h => f17.out h), (fun h => f18.out h), (fun h => f19.out h), (fun h => f20.out h), (fun h => f21.out h), (fun h => f22.out h)⟩
        · intro L vs W hlen hL hD hI K hK
          obtain ⟨x0, x1, x2, x3, x4, x5, x6, x7, x8, x9, x10, x11, x12, x13, x14, x15, x16, x17, x18, x19, x20, x21, x22, rfl⟩ := len23 hlen
          have hG := hI.1
          replace hI := hI.2
          have f0 := hide hI.1
          replace hI := hI.2
          have f1 := hide hI.1
          replace hI := hI.2
          have f2 := hide hI.1
          replace hI := hI.2
          have f3 := hide hI.1
          replace hI := hI.2
          have f4 := hide hI.1
          replace hI := hI.2
          have f5 := hide hI.1
          replace hI := hI.2
          have f6 := hide hI.1
          replace hI := hI.2
          have f7 := hide hI.1
          replace hI := hI.2
          have f8 := hide hI.1
          replace hI := hI.2
          have f9 := hide hI.1
          replace hI := hI.2
          have f10 := hide hI.1
          replace hI := hI.2
          have f11 := hide hI.1
          replace hI := hI.2
          have f12 := hide hI.1
          replace hI := hI.2
          have f13 := hide hI.1
          replace hI := hI.2
          have f14 := hide hI.1
          replace hI := hI.2
          have f15 := hide hI.1
          replace hI := hI.2
          have f16 := hide hI.1
          replace hI := hI.2
          have f17 := hide hI.1
          replace hI := hI.2
          have f18 := hide hI.1
          replace hI := hI.2
          have f19 := hide hI.1
          replace hI := hI.2
          have f20 := hide hI.1
          replace hI := hI.2
          have f21 := hide hI.1
          replace hI := hI.2
          have f22 := hide hI
          clear hI
          have r00 := hG.1.size
          obtain rfl := f6.out (hD.on 6 (by kernel_rfl))
          try simp only [puts, Act.put, List.setIfInBounds_toArray, List.set_cons_zero, List.set_cons_succ]
          try go_simp
          refine (HP1.out _).mono ?_
          rintro e W' ⟨rfl, rfl⟩
          try go_simp
          exact hK.out _ _ _ (by simp only [puts, Act.put, List.setIfInBounds_toArray, List.set_cons_zero, List.set_cons_succ] <;> rfl) ⟨hG, (fun h => f0.out h), (fun h => f1.out h), (fun h => f2.out h), (fun h => f3.out h), (fun h => f4.out h), (fun h => f5.out h), (fun h => f6.out h), (fun _ => rfl), (fun h => f8.out h), (fun h => f9.out h), (fun h => f10.out h), (fun h => f11.out h), (fun h => f12.out h), (fun h => f13.out h), (fun h => f14.out h), (fun h => f15.out h), (fun h => f16.out h), (fun h => f17.out h), (fun h => f18.out h), (fun h => f19.out h), (fun h => f20.out h), (fun h => f21.out h), (fun h => f22.out h)⟩
        · intro L vs W hlen hL hD hI K hK
          obtain ⟨x0, x1, x2, x3, x4, x5, x6, x7, x8, x9, x10, x11, x12, x13, x14, x15, x16, x17, x18, x19, x20, x21, x22, rfl⟩ := len23 hlen
          have hG := hI.1
          replace hI := hI.2
          have f0 := hide hI.1
          replace hI := hI.2
          have f1 := hide hI.1
          replace hI := hI.2
          have f2 := hide hI.1
          replace hI := hI.2
          have f3 := hide hI.1
          replace hI := hI.2
          have f4 := hide hI.1
          replace hI := hI.2
          have f5 := hide hI.1
          replace hI := hI.2
          have f6 := hide hI.1
          replace hI := hI.2
          have f7 := hide hI.1
          replace hI := hI.2
          have f8 := hide hI.1
          replace hI := hI.2
          have f9 := hide hI.1
          replace hI := hI.2
          have f10 := hide hI.1
          replace hI := hI.2
          have f11 := hide hI.1
          replace hI := hI.2
          have f12 := hide hI.1
          replace hI := hI.2
          have f13 := hide hI.1
          replace hI := hI.2
          have f14 := hide hI.1
          replace hI := hI.2
          have f15 := hide hI.1
          replace hI := hI.2
          have f16 := hide hI.1
          replace hI := hI.2
          have f17 := hide hI.1
          replace hI := hI.2
          have f18 := hide hI.1
          replace hI := hI.2
          have f19 := hide hI.1
          replace hI := hI.2
          have f20 := hide hI.1
          replace hI := hI.2
          have f21 := hide hI.1
          replace hI := hI.2
          have f22 := hide hI
          clear hI
          have r00 := hG.1.size
          try simp only [puts, Act.put, List.setIfInBounds_toArray, List.set_cons_zero, List.set_cons_succ]
          try go_simp
          exact hK.out _ _ _ (by simp only [puts, Act.put, List.setIfInBounds_toArray, List.set_cons_zero, List.set_cons_succ] <;> rfl) ⟨hG, (fun h => f0.out h), (fun h => f1.out h), (fun h => f2.out h), (fun h => f3.out h), (fun h => f4.out h), (fun h => f5.out h), (fun h => f6.out h), (fun h => f7.out h), (fun _ => rfl), (fun h => f9.out h), (fun h => f10.out h), (fun h => f11.out h), (fun h => f12.out h), (fun h => f13.out h), (fun h => f14.out h), (fun h => f15.out h), (fun h => f16.out h), (fun h => f17.out h), (fun h => f18.out h), (fun h => f19.out h), (fun h => f20.out h), (fun h => f21.out h), (fun h => f22.out h)⟩
        · intro L vs W hlen hL hD hI K hK
          obtain ⟨x0, x1, x2, x3, x4, x5, x6, x7, x8, x9, x10, x11, x12, x13, x14, x15, x16, x17, x18, x19, x20, x21, x22, rfl⟩ := len23 hlen
          have hG := hI.1
          replace hI := hI.2
          have f0 := hide hI.1
          replace hI := hI.2
          have f1 := hide hI.1
          replace hI := hI.2
          have f2 := hide hI.1
          replace hI := hI.2
          have f3 := hide hI.1
          replace hI := hI.2
          have f4 := hide hI.1
          replace hI := hI.2
          have f5 := hide hI.1
          replace hI := hI.2
          have f6 := hide hI.1
          replace hI := hI.2
          have f7 := hide hI.1
          replace hI := hI.2
          have f8 := hide hI.1
          replace hI := hI.2
          have f9 := hide hI.1
          replace hI := hI.2
          have f10 := hide hI.1
          replace hI := hI.2
          have f11 := hide hI.1
          replace hI := hI.2
          have f12 := hide hI.1
          replace hI := hI.2
          have f13 := hide hI.1
          replace hI := hI.2
          have f14 := hide hI.1
          replace hI := hI.2
          have f15 := hide hI.1
          replace hI := hI.2
          have f16 := hide hI.1
          replace hI := hI.2
          have f17 := hide hI.1
          replace hI := hI.2
          have f18 := hide hI.1
          replace hI := hI.2
          have f19 := hide hI.1
          replace hI := hI.2
          have f20 := hide hI.1
          replace hI := hI.2
          have f21 := hide hI.1
          replace hI := hI.2
          have f22 := hide hI
          clear hI
          have r00 := hG.1.size
          obtain rfl := f8.out (hD.on 8 (by kernel_rfl))
          try simp only [puts, Act.put, List.setIfInBounds_toArray, List.set_cons_zero, List.set_cons_succ]
          have r0 := hG.1.cell bZ (show wr.heap.size ≠ w.heap.size + 1 + 1 by omega) (by decide) 2 rfl
          go_simp
          exact hK.out _ _ _ (by simp only [puts, Act.put, List.setIfInBounds_toArray, List.set_cons_zero, List.set_cons_succ] <;> rfl) ⟨hG, (fun h => f0.out h), (fun h => f1.out h), (fun h => f2.out h), (fun h => f3.out h), (fun h => f4.out h), (fun h => f5.out h), (fun h => f6.out h), (fun h => f7.out h), (fun h => f8.out h), (fun _ => rfl), (fun h => f10.out h), (fun h => f11.out h), (fun h => f12.out h), (fun h => f13.out h), (fun h => f14.out h), (fun h => f15.out h), (fun h => f16.out h), (fun h => f17.out h), (fun h => f18.out h), (fun h => f19.out h), (fun h => f20.out h), (fun h => f21.out h), (fun h => f22.out h)⟩
        · intro L vs W hlen hL hD hI K hK
          obtain ⟨x0, x1, x2, x3, x4, x5, x6, x7, x8, x9, x10, x11, x12, x13, x14, x15, x16, x17, x18, x19, x20, x21, x22, rfl⟩ := len23 hlen
          have hG := hI.1
          replace hI := hI.2
          have f0 := hide hI.1
          replace hI := hI.2
          have f1 := hide hI.1
          replace hI := hI.2
          have f2 := hide hI.1
          replace hI := hI.2
          have f3 := hide hI.1
          replace hI := hI.2
          have f4 := hide hI.1
          replace hI := hI.2
          have f5 := hide hI.1
          replace hI := hI.2
          have f6 := hide hI.1
          replace hI := hI.2
          have f7 := hide hI.1
          replace hI := hI.2
          have f8 := hide hI.1
          replace hI := hI.2
          have f9 := hide hI.1
          replace hI := hI.2
          have f10 := hide hI.1
          replace hI := hI.2
          have f11 := hide hI.1
          replace hI := hI.2
          have f12 := hide hI.1
          replace hI := hI.2
          have f13 := hide hI.1
          replace hI := hI.2
          have f14 := hide hI.1
          replace hI := hI.2
          have f15 := hide hI.1
          replace hI := hI.2
          have f16 := hide hI.1
          replace hI := hI.2
          have f17 := hide hI.1
          replace hI := hI.2
          have f18 := hide hI.1
          replace hI := hI.2
          have f19 := hide hI.1
          replace hI := hI.2
          have f20 := hide hI.1
          replace hI := hI.2
          have f21 := hide hI.1
          replace hI := hI.2
          have f22 := hide hI
          clear hI
          have r00 := hG.1.size
          try simp only [puts, Act.put, List.setIfInBounds_toArray, List.set_cons_zero, List.set_cons_succ]
          try go_simp
          exact hK.out _ _ _ (by simp only [puts, Act.put, List.setIfInBounds_toArray, List.set_cons_zero, List.set_cons_succ] <;> rfl) ⟨hG, (fun h => f0.out h), (fun h => f1.out h), (fun h => f2.out h), (fun h => f3.out h), (fun h => f4.out h), (fun h => f5.out h), (fun h => f6.out h), (fun h => f7.out h), (fun h => f8.out h), (fun h => f9.out h), (fun _ => rfl), (fun h => f11.out h), (fun h => f12.out h), (fun h => f13.out h), (fun h => f14.out h), (fun h => f15.out h), (fun h => f16.out h), (fun h => f17.out h), (fun h => f18.out h), (fun h => f19.out h), (fun h => f20.out h), (fun h => f21.out h), (fun h => f22.out h)⟩
        · intro L vs W hlen hL hD hI K hK
          obtain ⟨x0, x1, x2, x3, x4, x5, x6, x7, x8, x9, x10, x11, x12, x13, x14, x15, x16, x17, x18, x19, x20, x21, x22, rfl⟩ := len23 hlen
          have hG := hI.1
          replace hI := hI.2
          have f0 := hide hI.1
          replace hI := hI.2
          have f1 := hide hI.1
          replace hI := hI.2
          have f2 := hide hI.1
          replace hI := hI.2
          have f3 := hide hI.1
          replace hI := hI.2
          have f4 := hide hI.1
          replace hI := hI.2
          have f5 := hide hI.1
          replace hI := hI.2
          have f6 := hide hI.1
          replace hI := hI.2
          have f7 := hide hI.1
          replace hI := hI.2
          have f8 := hide hI.1
          replace hI := hI.2
          have f9 := hide hI.1
          replace hI := hI.2
          have f10 := hide hI.1
          replace hI := hI.2
          have f11 := hide hI.1
          replace hI := hI.2
          have f12 := hide hI.1
          replace hI := hI.2
          have f13 := hide hI.1
          replace hI := hI.2
          have f14 := hide hI.1
          replace hI := hI.2
          have f15 := hide hI.1
          replace hI := hI.2
          have f16 := hide hI.1
          replace hI := hI.2
          have f17 := hide hI.1
          replace hI := hI.2
          have f18 := hide hI.1
          replace hI := hI.2
          have f19 := hide hI.1
          replace hI := hI.2
          have f20 := hide hI.1
          replace hI := hI.2
          have f21 := hide hI.1
          replace hI := hI.2
          have f22 := hide hI
          clear hI
          have r00 := hG.1.size
          obtain rfl := f10.out (hD.on 10 (by kernel_rfl))
          try simp only [puts, Act.put, List.setIfInBounds_toArray, List.set_cons_zero, List.set_cons_succ]
          have r0 := hG.1.cell bZ (show wr.heap.size ≠ w.heap.size + 1 + 1 by omega) (by decide) 3 rfl
          go_simp
          exact hK.out _ _ _ (by simp only [puts, Act.put, List.setIfInBounds_toArray, List.set_cons_zero, List.set_cons_succ] <;> rfl) ⟨hG, (fun h => f0.out h), (fun h => f1.out h), (fun h => f2.out h), (fun h => f3.out h), (fun h => f4.out h), (fun h => f5.out h), (fun h => f6.out h), (fun h => f7.out h), (fun h => f8.out h), (fun h => f9.out h), (fun h => f10.out h), (fun _ => rfl), (fun h => f12.out h), (fun h => f13.out h), (fun h => f14.out h), (fun h => f15.out h), (fun h => f16.out h), (fun h => f17.out h), (fun h => f18.out h), (fun h => f19.out h), (fun h => f20.out h), (fun h => f21.out h), (fun h => f22.out h)⟩
        · intro L vs W hlen hL hD hI K hK
          obtain ⟨x0, x1, x2, x3, x4, x5, x6, x7, x8, x9, x10, x11, x12, x13, x14, x15, x16, x17, x18, x19, x20, x21, x22, rfl⟩ := len23 hlen
          have hG := hI.1
          replace hI := hI.2
          have f0 := hide hI.1
          replace hI := hI.2
          have f1 := hide hI.1
          replace hI := hI.2
          have f2 := hide hI.1
          replace hI := hI.2
          have f3 := hide hI.1
          replace hI := hI.2
          have f4 := hide hI.1
          replace hI := hI.2
          have f5 := hide hI.1
          replace hI := hI.2
          have f6 := hide hI.1
          replace hI := hI.2
          have f7 := hide hI.1
          replace hI := hI.2
          have f8 := hide hI.1
          replace hI := hI.2
          have f9 := hide hI.1
          replace hI := hI.2
          have f10 := hide hI.1
          replace hI := hI.2
          have f11 := hide hI.1
          replace hI := hI.2
          have f12 := hide hI.1
          replace hI := hI.2
          have f13 := hide hI.1
          replace hI := hI.2
          have f14 := hide hI.1
          replace hI := hI.2
          have f15 := hide hI.1
          replace hI := hI.2
          have f16 := hide hI.1
          replace hI := hI.2
          have f17 := hide hI.1
          replace hI := hI.2
          have f18 := hide hI.1
          replace hI := hI.2
          have f19 := hide hI.1
          replace hI := hI.2
          have f20 := hide hI.1
          replace hI := hI.2
          have f21 := hide hI.1
          replace hI := hI.2
          have f22 := hide hI
          clear hI
          have r00 := hG.1.size
          obtain rfl := f9.out (hD.on 9 (by kernel_rfl))
          obtain rfl := f11.out (hD.on 11 (by kernel_rfl))
          try simp only [puts, Act.put, List.setIfInBounds_toArray, List.set_cons_zero, List.set_cons_succ]
          try go_simp
          refine (HS.out _).mono ?_
          rintro e W' ⟨rfl, hb⟩
          try go_simp
          exact hK.out _ _ _ (by simp only [puts, Act.put, List.setIfInBounds_toArray, List.set_cons_zero, List.set_cons_succ] <;> rfl) ⟨⟨hG.1.then hb, fun h => (hG.2.1 h).later hb, fun h => (hG.2.2 h).later' hb⟩, (fun h => f0.out h), (fun h => f1.out h), (fun h => f2.out h), (fun h => f3.out h), (fun h => f4.out h), (fun h => f5.out h), (fun h => f6.out h), (fun h => f7.out h), (fun h => f8.out h), (fun h => f9.out h), (fun h => f10.out h), (fun h => f11.out h), (fun _ => rfl), (fun h => f13.out h), (fun h => f14.out h), (fun h => f15.out h), (fun h => f16.out h), (fun h => f17.out h), (fun h => f18.out h), (fun h => (fun h => fun h8 => let ⟨b0, a1, a2⟩ := h h8; ⟨b0, a1, a2.later hb⟩) (f19.out h)), (fun h => (fun h => let ⟨g1, c1, e, ho⟩ := h; ⟨g1, c1, e, ho.later' hb⟩) (f20.out h)), (fun h => f21.out h), (fun h => (fun h => ⟨h.1, let ⟨g1, c1, e, hk⟩ := h.2; ⟨g1, c1, e, hk.later hb⟩⟩) (f22.out h))⟩
        · intro L vs W hlen hL hD hI K hK
          obtain ⟨x0, x1, x2, x3, x4, x5, x6, x7, x8, x9, x10, x11, x12, x13, x14, x15, x16, x17, x18, x19, x20, x21, x22, rfl⟩ := len23 hlen
          have hG := hI.1
          replace hI := hI.2
          have f0 := hide hI.1
          replace hI := hI.2
          have f1 := hide hI.1
          replace hI := hI.2
          have f2 := hide hI.1
          replace hI := hI.2
          have f3 := hide hI.1
          replace hI := hI.2
          have f4 := hide hI.1
          replace hI := hI.2
          have f5 := hide hI.1
          replace hI := hI.2
          have f6 := hide hI.1
          replace hI := hI.2
          have f7 := hide hI.1
          replace hI := hI.2
          have f8 := hide hI.1
          replace hI := hI.2
          have f9 := hide hI.1
          replace hI := hI.2
          have f10 := hide hI.1
          replace hI := hI.2
          have f11 := hide hI.1
          replace hI := hI.2
          have f12 := hide hI.1
          replace hI := hI.2
          have f13 := hide hI.1
          replace hI := hI.2
          have f14 := hide hI.1
          replace hI := hI.2
          have f15 := hide hI.1
          replace hI := hI.2
          have f16 := hide hI.1
          replace hI := hI.2
          have f17 := hide hI.1
          replace hI := hI.2
          have f18 := hide hI.1
          replace hI := hI.2
          have f19 := hide hI.1
          replace hI := hI.2
          have f20 := hide hI.1
          replace hI := hI.2
          have f21 := hide hI.1
          replace hI := hI.2
          have f22 := hide hI
          clear hI
          have r00 := hG.1.size
          try simp only [puts, Act.put, List.setIfInBounds_toArray, List.set_cons_zero, List.set_cons_succ]
          try go_simp
          exact hK.out _ _ _ (by simp only [puts, Act.put, List.setIfInBounds_toArray, List.set_cons_zero, List.set_cons_succ] <;> rfl) ⟨hG, (fun h => f0.out h), (fun h => f1.out h), (fun h => f2.out h), (fun h => f3.out h), (fun h => f4.out h), (fun h => f5.out h), (fun h => f6.out h), (fun h => f7.out h), (fun h => f8.out h), (fun h => f9.out h), (fun h => f10.out h), (fun h => f11.out h), (fun h => f12.out h), (fun _ => rfl), (fun h => f14.out h), (fun h => f15.out h), (fun h => f16.out h), (fun h => f17.out h), (fun h => f18.out h), (fun h => f19.out h), (fun h => f20.out h), (fun h => f21.out h), (fun h => f22.out h)⟩
        · intro L vs W hlen hL hD hI K hK
          obtain ⟨x0, x1, x2, x3, x4, x5, x6, x7, x8, x9, x10, x11, x12, x13, x14, x15, x16, x17, x18, x19, x20, x21, x22, rfl⟩ := len23 hlen
          have hG := hI.1
          replace hI := hI.2
          have f0 := hide hI.1
          replace hI := hI.2
          have f1 := hide hI.1
          replace hI := hI.2
          have f2 := hide hI.1
          replace hI := hI.2
          have f3 := hide hI.1
          replace hI := hI.2
          have f4 := hide hI.1
          replace hI := hI.2
          have f5 := hide hI.1
          replace hI := hI.2
          have f6 := hide hI.1
          replace hI := hI.2
          have f7 := hide hI.1
          replace hI := hI.2
          have f8 := hide hI.1
          replace hI := hI.2
          have f9 := hide hI.1
          replace hI := hI.2
          have f10 := hide hI.1
          replace hI := hI.2
          have f11 := hide hI.1
          replace hI := hI.2
          have f12 := hide hI.1
          replace hI := hI.2
          have f13 := hide hI.1
          replace hI := hI.2
          have f14 := hide hI.1
          replace hI := hI.2
          have f15 := hide hI.1
          replace hI := hI.2
          have f16 := hide hI.1
          replace hI := hI.2
          have f17 := hide hI.1
          replace hI := hI.2
          have f18 := hide hI.1
          replace hI := hI.2
          have f19 := hide hI.1
          replace hI := hI.2
          have f20 := hide hI.1
          replace hI := hI.2
          have f21 := hide hI.1
          replace hI := hI.2
          have f22 := hide hI
          clear hI
          have r00 := hG.1.size
          obtain rfl := f13.out (hD.on 13 (by kernel_rfl))
          try simp only [puts, Act.put, List.setIfInBounds_toArray, List.set_cons_zero, List.set_cons_succ]
          have r0 := hG.1.cell bZ (show wr.heap.size ≠ w.heap.size + 1 + 1 by omega) (by decide) 4 rfl
          go_simp
          exact hK.out _ _ _ (by simp only [puts, Act.put, List.setIfInBounds_toArray, List.set_cons_zero, List.set_cons_succ] <;> rfl) ⟨hG, (fun h => f0.out h), (fun h => f1.out h), (fun h => f2.out h), (fun h => f3.out h), (fun h => f4.out h), (fun h => f5.out h), (fun h => f6.out h), (fun h => f7.out h), (fun h => f8.out h), (fun h => f9.out h), (fun h => f10.out h), (fun h => f11.out h), (fun h => f12.out h), (fun h => f13.out h), (fun _ => rfl), (fun h => f15.out h), (fun h => f16.out h), (fun h => f17.out h), (fun h => f18.out h), (fun h => f19.out h), (fun h => f20.out h), (fun h => f21.out h), (fun h => f22.out h)⟩
        · intro L vs W hlen hL hD hI K hK
          obtain ⟨x0, x1, x2, x3, x4, x5, x6, x7, x8, x9, x10, x11, x12, x13, x14, x15, x16, x17, x18, x19, x20, x21, x22, rfl⟩ := len23 hlen
          have hG := hI.1
          replace hI := hI.2
          have f0 := hide hI.1
          replace hI := hI.2
          have f1 := hide hI.1
          replace hI := hI.2
          have f2 := hide hI.1
          replace hI := hI.2
          have f3 := hide hI.1
          replace hI := hI.2
          have f4 := hide hI.1
          replace hI := hI.2
          have f5 := hide hI.1
          replace hI := hI.2
          have f6 := hide hI.1
          replace hI := hI.2
          have f7 := hide hI.1
          replace hI := hI.2
          have f8 := hide hI.1
          replace hI := hI.2
          have f9 := hide hI.1
          replace hI := hI.2
          have f10 := hide hI.1
          replace hI := hI.2
          have f11 := hide hI.1
          replace hI := hI.2
          have f12 := hide hI.1
          replace hI := hI.2
          have f13 := hide hI.1
          replace hI := hI.2
          have f14 := hide hI.1
          replace hI := hI.2
          have f15 := hide hI.1
          replace hI := hI.2
          have f16 := hide hI.1
          replace hI := hI.2
          have f17 := hide hI.1
          replace hI := hI.2
          have f18 := hide hI.1
          replace hI := hI.2
          have f19 := hide hI.1
          replace hI := hI.2
          have f20 := hide hI.1
          replace hI := hI.2
          have f21 := hide hI.1
          replace hI := hI.2
          have f22 := hide hI
          clear hI
          have r00 := hG.1.size
          try simp only [puts, Act.put, List.setIfInBounds_toArray, List.set_cons_zero, List.set_cons_succ]
          try go_simp
          exact hK.out _ _ _ (by simp only [puts, Act.put, List.setIfInBounds_toArray, List.set_cons_zero, List.set_cons_succ] <;> rfl) ⟨hG, (fun h => f0.out h), (fun h => f1.out h), (fun h => f2.out h), (fun h => f3.out h), (fun h => f4.out h), (fun h => f5.out h), (fun h => f6.out h), (fun h => f7.out h), (fun h => f8.out h), (fun h => f9.out h), (fun h => f10.out h), (fun h => f11.out h), (fun h => f12.out h), (fun h => f13.out h), (fun h => f14.out h), (fun _ => rfl), (fun h => f16.out h), (fun h => f17.out h), (fun h => f18.out h), (fun h => f19.out h), (fun h => f20.out h), (fun h => f21.out h), (fun h => f22.out h)⟩
        · intro L vs W hlen hL hD hI K hK
          obtain ⟨x0, x1, x2, x3, x4, x5, x6, x7, x8, x9, x10, x11, x12, x13, x14, x15, x16, x17, x18, x19, x20, x21, x22, rfl⟩ := len23 hlen
          have hG := hI.1
          replace hI := hI.2
          have f0 := hide hI.1
          replace hI := hI.2
          have f1 := hide hI.1
          replace hI := hI.2
          have f2 := hide hI.1
          replace hI := hI.2
          have f3 := hide hI.1
          replace hI := hI.2
          have f4 := hide hI.1
          replace hI := hI.2
          have f5 := hide hI.1
          replace hI := hI.2
          have f6 := hide hI.1
          replace hI := hI.2
          have f7 := hide hI.1
          replace hI := hI.2
          have f8 := hide hI.1
          replace hI := hI.2
          have f9 := hide hI.1
          replace hI := hI.2
          have f10 := hide hI.1
          replace hI := hI.2
          have f11 := hide hI.1
          replace hI := hI.2
          have f12 := hide hI.1
          replace hI := hI.2
          have f13 := hide hI.1
          replace hI := hI.2
          have f14 := hide hI.1
          replace hI := hI.2
          have f15 := hide hI.1
          replace hI := hI.2
          have f16 := hide hI.1
          replace hI := hI.2
          have f17 := hide hI.1
          replace hI := hI.2
          have f18 := hide hI.1
          replace hI := hI.2
          have f19 := hide hI.1
          replace hI := hI.2
          have f20 := hide hI.1
          replace hI := hI.2
          have f21 := hide hI.1
          replace hI := hI.2
          have f22 := hide hI
          clear hI
          have r00 := hG.1.size
          obtain rfl := f15.out (hD.on 15 (by kernel_rfl))
          try simp only [puts, Act.put, List.setIfInBounds_toArray, List.set_cons_zero, List.set_cons_succ]
          have r0 := hG.1.cell bZ (show wr.heap.size ≠ w.heap.size + 1 + 1 by omega) (by decide) 5 rfl
          go_simp
          exact hK.out _ _ _ (by simp only [puts, Act.put, List.setIfInBounds_toArray, List.set_cons_zero, List.set_cons_succ] <;> rfl) ⟨hG, (fun h => f0.out h), (fun h => f1.out h), (fun h => f2.out h), (fun h => f3.out h), (fun h => f4.out h), (fun h => f5.out h), (fun h => f6.out h), (fun h => f7.out h), (fun h => f8.out h), (fun h => f9.out h), (fun h => f10.out h), (fun h => f11.out h), (fun h => f12.out h), (fun h => f13.out h), (fun h => f14.out h), (fun h => f15.out h), (fun _ => rfl), (fun h => f17.out h), (fun h => f18.out h), (fun h => f19.out h), (fun h => f20.out h), (fun h => f21.out h), (fun h => f22.out h)⟩
        · intro L vs W hlen hL hD hI K hK
          obtain ⟨x0, x1, x2, x3, x4, x5, x6, x7, x8, x9, x10, x11, x12, x13, x14, x15, x16, x17, x18, x19, x20, x21, x22, rfl⟩ := len23 hlen
          have hG := hI.1
          replace hI := hI.2
          have f0 := hide hI.1
          replace hI := hI.2
          have f1 := hide hI.1
          replace hI := hI.2
          have f2 := hide hI.1
          replace hI := hI.2
          have f3 := hide hI.1
          replace hI := hI.2
          have f4 := hide hI.1
          replace hI := hI.2
          have f5 := hide hI.1
          replace hI := hI.2
          have f6 := hide hI.1
          replace hI := hI.2
          have f7 := hide hI.1
          replace hI := hI.2
          have f8 := hide hI.1
          replace hI := hI.2
          have f9 := hide hI.1
          replace hI := hI.2
          have f10 := hide hI.1
          replace hI := hI.2
          have f11 := hide hI.1
          replace hI := hI.2
          have f12 := hide hI.1
          replace hI := hI.2
          have f13 := hide hI.1
          replace hI := hI.2
          have f14 := hide hI.1
          replace hI := hI.2
          have f15 := hide hI.1
          replace hI := hI.2
          have f16 := hide hI.1
          replace hI := hI.2
          have f17 := hide hI.1
          replace hI := hI.2
          have f18 := hide hI.1
          replace hI := hI.2
          have f19 := hide hI.1
          replace hI := hI.2
          have f20 := hide hI.1
          replace hI := hI.2
          have f21 := hide hI.1
          replace hI := hI.2
          have f22 := hide hI
          clear hI
          have r00 := hG.1.size
          obtain rfl := f14.out (hD.on 14 (by kernel_rfl))
          obtain rfl := f16.out (hD.on 16 (by kernel_rfl))
          try simp only [puts, Act.put, List.setIfInBounds_toArray, List.set_cons_zero, List.set_cons_succ]
          try go_simp
          refine (HT.out _).mono ?_
          rintro e W' ⟨rfl, hb⟩
          try go_simp
          exact hK.out _ _ _ (by simp only [puts, Act.put, List.setIfInBounds_toArray, List.set_cons_zero, List.set_cons_succ] <;> rfl) ⟨⟨hG.1.then hb, fun h => (hG.2.1 h).later hb, fun h => (hG.2.2 h).later' hb⟩, (fun h => f0.out h), (fun h => f1.out h), (fun h => f2.out h), (fun h => f3.out h), (fun h => f4.out h), (fun h => f5.out h), (fun h => f6.out h), (fun h => f7.out h), (fun h => f8.out h), (fun h => f9.out h), (fun h => f10.out h), (fun h => f11.out h), (fun h => f12.out h), (fun h => f13.out h), (fun h => f14.out h), (fun h => f15.out h), (fun h => f16.out h), (fun _ => rfl), (fun h => f18.out h), (fun h => (fun h => fun h8 => let ⟨b0, a1, a2⟩ := h h8; ⟨b0, a1, a2.later hb⟩) (f19.out h)), (fun h => (fun h => let ⟨g1, c1, e, ho⟩ := h; ⟨g1, c1, e, ho.later' hb⟩) (f20.out h)), (fun h => f21.out h), (fun h => (fun h => ⟨h.1, let ⟨g1, c1, e, hk⟩ := h.2; ⟨g1, c1, e, hk.later hb⟩⟩) (f22.out h))⟩
        · intro L vs W hlen hL hD hI K hK
          obtain ⟨x0, x1, x2, x3, x4, x5, x6, x7, x8, x9, x10, x11, x12, x13, x14, x15, x16, x17, x18, x19, x20, x21, x22, rfl⟩ := len23 hlen
          have hG := hI.1
          replace hI := hI.2
          have f0 := hide hI.1
          replace hI := hI.2
          have f1 := hide hI.1
          replace hI := hI.2
          have f2 := hide hI.1
          replace hI := hI.2
          have f3 := hide hI.1
          replace hI := hI.2
          have f4 := hide hI.1
          replace hI := hI.2
          have f5 := hide hI.1
          replace hI := hI.2
          have f6 := hide hI.1
          replace hI := hI.2
          have f7 := hide hI.1
          replace hI := hI.2
          have f8 := hide hI.1
          replace hI := hI.2
          have f9 := hide hI.1
          replace hI := hI.2
          have f10 := hide hI.1
          replace hI := hI.2
          have f11 := hide hI.1
          replace hI := hI.2
          have f12 := hide hI.1
          replace hI := hI.2
          have f13 := hide hI.1
          replace hI := hI.2
          have f14 := hide hI.1
          replace hI := hI.2
          have f15 := hide hI.1
          replace hI := hI.2
          have f16 := hide hI.1
          replace hI := hI.2
          have f17 := hide hI.1
          replace hI := hI.2
          have f18 := hide hI.1
          replace hI := hI.2
          have f19 := hide hI.1
          replace hI := hI.2
          have f20 := hide hI.1
          replace hI := hI.2
          have f21 := hide hI.1
          replace hI := hI.2
          have f22 := hide hI
          clear hI
          have r00 := hG.1.size
          obtain rfl := f4.out (hD.on 4 (by kernel_rfl))
          obtain rfl := f7.out (hD.on 7 (by kernel_rfl))
          obtain rfl := f12.out (hD.on 12 (by kernel_rfl))
          obtain rfl := f17.out (hD.on 17 (by kernel_rfl))
          try simp only [puts, Act.put, List.setIfInBounds_toArray, List.set_cons_zero, List.set_cons_succ]
          try go_simp
          exact hK.out _ _ _ (by simp only [puts, Act.put, List.setIfInBounds_toArray, List.set_cons_zero, List.set_cons_succ] <;> rfl) ⟨hG, (fun h => f0.out h), (fun h => f1.out h), (fun h => f2.out h), (fun h => f3.out h), (fun h => f4.out h), (fun h => f5.out h), (fun h => f6.out h), (fun h => f7.out h), (fun h => f8.out h), (fun h => f9.out h), (fun h => f10.out h), (fun h => f11.out h), (fun h => f12.out h), (fun h => f13.out h), (fun h => f14.out h), (fun h => f15.out h), (fun h => f16.out h), (fun h => f17.out h), (fun _ => rfl), (fun h => f19.out h), (fun h => f20.out h), (fun h => f21.out h), (fun h => f22.out h)⟩
        · intro L vs W hlen hL hD hI K hK
          obtain ⟨x0, x1, x2, x3, x4, x5, x6, x7, x8, x9, x10, x11, x12, x13, x14, x15, x16, x17, x18, x19, x20, x21, x22, rfl⟩ := len23 hlen
          have hG := hI.1
          replace hI := hI.2
          have f0 := hide hI.1
          replace hI := hI.2
          have f1 := hide hI.1
          replace hI := hI.2
          have f2 := hide hI.1
          replace hI := hI.2
          have f3 := hide hI.1
          replace hI := hI.2
          have f4 := hide hI.1
          replace hI := hI.2
          have f5 := hide hI.1
          replace hI := hI.2
          have f6 := hide hI.1
          replace hI := hI.2
          have f7 := hide hI.1
          replace hI := hI.2
          have f8 := hide hI.1
          replace hI := hI.2
          have f9 := hide hI.1
          replace hI := hI.2
          have f10 := hide hI.1
          replace hI := hI.2
          have f11 := hide hI.1
          replace hI := hI.2
          have f12 := hide hI.1
          replace hI := hI.2
          have f13 := hide hI.1
          replace hI := hI.2
          have f14 := hide hI.1
          replace hI := hI.2
          have f15 := hide hI.1
          replace hI := hI.2
          have f16 := hide hI.1
          replace hI := hI.2
          have f17 := hide hI.1
          replace hI := hI.2
          have f18 := hide hI.1
          replace hI := hI.2
          have f19 := hide hI.1
          replace hI := hI.2
          have f20 := hide hI.1
          replace hI := hI.2
          have f21 := hide hI.1
          replace hI := hI.2
          have f22 := hide hI
          clear hI
          have r00 := hG.1.size
          obtain rfl := f18.out (hD.on 18 (by kernel_rfl))
          try simp only [puts, Act.put, List.setIfInBounds_toArray, List.set_cons_zero, List.set_cons_succ]
          go_simp
          generalize hW' : World.alloc W _ = W'
          have hb : Below W.heap.size W W' := by rw [← hW']; exact bal W _
          exact hK.out _ _ _ (by simp only [puts, Act.put, List.setIfInBounds_toArray, List.set_cons_zero, List.set_cons_succ] <;> rfl) ⟨⟨hG.1.then hb, fun h => (hG.2.1 h).later hb, fun h => (hG.2.2 h).later' hb⟩, (fun h => f0.out h), (fun h => f1.out h), (fun h => f2.out h), (fun h => f3.out h), (fun h => f4.out h), (fun h => f5.out h), (fun h => f6.out h), (fun h => f7.out h), (fun h => f8.out h), (fun h => f9.out h), (fun h => f10.out h), (fun h => f11.out h), (fun h => f12.out h), (fun h => f13.out h), (fun h => f14.out h), (fun h => f15.out h), (fun h => f16.out h), (fun h => f17.out h), (fun h => f18.out h), (fun _ => fun _ => ⟨W.heap.size, rfl, by rw [← hW']; exact Blk.newA W _ rfl⟩), (fun h => (fun h => let ⟨g1, c1, e, ho⟩ := h; ⟨g1, c1, e, ho.later' hb⟩) (f20.out h)), (fun h => f21.out h), (fun h => (fun h => ⟨h.1, let ⟨g1, c1, e, hk⟩ := h.2; ⟨g1, c1, e, hk.later hb⟩⟩) (f22.out h))⟩
        · intro L vs W hlen hL hD hI K hK
          obtain ⟨x0, x1, x2, x3, x4, x5, x6, x7, x8, x9, x10, x11, x12, x13, x14, x15, x16, x17, x18, x19, x20, x21, x22, rfl⟩ := len23 hlen
          have hG := hI.1
          replace hI := hI.2
          have f0 := hide hI.1
          replace hI := hI.2
          have f1 := hide hI.1
          replace hI := hI.2
          have f2 := hide hI.1
          replace hI := hI.2
          have f3 := hide hI.1
          replace hI := hI.2
          have f4 := hide hI.1
          replace hI := hI.2
          have f5 := hide hI.1
          replace hI := hI.2
          have f6 := hide hI.1
          replace hI := hI.2
          have f7 := hide hI.1
          replace hI := hI.2
          have f8 := hide hI.1
          replace hI := hI.2
          have f9 := hide hI.1
          replace hI := hI.2
          have f10 := hide hI.1
          replace hI := hI.2
          have f11 := hide hI.1
          replace hI := hI.2
          have f12 := hide hI.1
          replace hI := hI.2
          have f13 := hide hI.1
          replace hI := hI.2
          have f14 := hide hI.1
          replace hI := hI.2
          have f15 := hide hI.1
          replace hI := hI.2
          have f16 := hide hI.1
          replace hI := hI.2
          have f17 := hide hI.1
          replace hI := hI.2
          have f18 := hide hI.1
          replace hI := hI.2
          have f19 := hide hI.1
          replace hI := hI.2
          have f20 := hide hI.1
          replace hI := hI.2
          have f21 := hide hI.1
          replace hI := hI.2
          have f22 := hide hI
          clear hI
          have r00 := hG.1.size
          obtain rfl := f1.out (hD.on 1 (by kernel_rfl))
          have g19 := f19.out (hD.on 19 (by kernel_rfl))
          try simp only [puts, Act.put, List.setIfInBounds_toArray, List.set_cons_zero, List.set_cons_succ]
          obtain ⟨b0, rfl, hB0⟩ := g19 hL
          refine step_one infoFact rfl (by decide) Tryz.underlying30 rfl _ _ rfl (w.heap.size + 1 + 1 + 1) _ Lr rfl (hG.2.2 hL) b0 _ rfl hB0 rfl (factC_one (x := ⟨P0, P1, S0, S1, T0, T1⟩)) (by omega) (by omega) (by omega) ?_
          intro g1 c1 W' hO' hE'
          have hb : True := trivial
          exact hK.out _ _ _ (by simp only [puts, Act.put, List.setIfInBounds_toArray, List.set_cons_zero, List.set_cons_succ] <;> rfl) ⟨⟨hG.1.app hE', fun h => hE'.blk (hG.2.1 h) (by decide), fun h => (by cases h)⟩, (fun h => f0.out h), (fun h => f1.out h), (fun h => f2.out h), (fun h => f3.out h), (fun h => f4.out h), (fun h => f5.out h), (fun h => f6.out h), (fun h => f7.out h), (fun h => f8.out h), (fun h => f9.out h), (fun h => f10.out h), (fun h => f11.out h), (fun h => f12.out h), (fun h => f13.out h), (fun h => f14.out h), (fun h => f15.out h), (fun h => f16.out h), (fun h => f17.out h), (fun h => f18.out h), (fun h => (fun h => (fun h21 => by cases h21)) (f19.out h)), (fun _ => ⟨g1, c1, rfl, hO'⟩), (fun h => f21.out h), (fun h => (fun h => absurd (h.1.2.symm.trans hL) (by decide)) (f22.out h))⟩
        · intro L vs W hlen hL hD hI K hK
          obtain ⟨x0, x1, x2, x3, x4, x5, x6, x7, x8, x9, x10, x11, x12, x13, x14, x15, x16, x17, x18, x19, x20, x21, x22, rfl⟩ := len23 hlen
          have hG := hI.1
          replace hI := hI.2
          have f0 := hide hI.1
          replace hI := hI.2
          have f1 := hide hI.1
          replace hI := hI.2
          have f2 := hide hI.1
          replace hI := hI.2
          have f3 := hide hI.1
          replace hI := hI.2
          have f4 := hide hI.1
          replace hI := hI.2
          have f5 := hide hI.1
          replace hI := hI.2
          have f6 := hide hI.1
          replace hI := hI.2
          have f7 := hide hI.1
          replace hI := hI.2
          have f8 := hide hI.1
          replace hI := hI.2
          have f9 := hide hI.1
          replace hI := hI.2
          have f10 := hide hI.1
          replace hI := hI.2
          have f11 := hide hI.1
          replace hI := hI.2
          have f12 := hide hI.1
          replace hI := hI.2
          have f13 := hide hI.1
          replace hI := hI.2
          have f14 := hide hI.1
          replace hI := hI.2
          have f15 := hide hI.1
          replace hI := hI.2
          have f16 := hide hI.1
          replace hI := hI.2
          have f17 := hide hI.1
          replace hI := hI.2
          have f18 := hide hI.1
          replace hI := hI.2
          have f19 := hide hI.1
          replace hI := hI.2
          have f20 := hide hI.1
          replace hI := hI.2
          have f21 := hide hI.1
          replace hI := hI.2
          have f22 := hide hI
          clear hI
          have r00 := hG.1.size
          try simp only [puts, Act.put, List.setIfInBounds_toArray, List.set_cons_zero, List.set_cons_succ]
          try go_simp
          exact hK.out _ _ _ (by simp only [puts, Act.put, List.setIfInBounds_toArray, List.set_cons_zero, List.set_cons_succ] <;> rfl) ⟨hG, (fun h => f0.out h), (fun h => f1.out h), (fun h => f2.out h), (fun h => f3.out h), (fun h => f4.out h), (fun h => f5.out h), (fun h => f6.out h), (fun h => f7.out h), (fun h => f8.out h), (fun h => f9.out h), (fun h => f10.out h), (fun h => f11.out h), (fun h => f12.out h), (fun h => f13.out h), (fun h => f14.out h), (fun h => f15.out h), (fun h => f16.out h), (fun h => f17.out h), (fun h => f18.out h), (fun h => f19.out h), (fun h => f20.out h), (fun _ => rfl), (fun h => f22.out h)⟩
        · intro L vs W hlen hL hD hI K hK
          obtain ⟨x0, x1, x2, x3, x4, x5, x6, x7, x8, x9, x10, x11, x12, x13, x14, x15, x16, x17, x18, x19, x20, x21, x22, rfl⟩ := len23 hlen
          have hG := hI.1
          replace hI := hI.2
          have f0 := hide hI.1
          replace hI := hI.2
          have f1 := hide hI.1
          replace hI := hI.2
          have f2 := hide hI.1
          replace hI := hI.2
          have f3 := hide hI.1
          replace hI := hI.2
          have f4 := hide hI.1
          replace hI := hI.2
          have f5 := hide hI.1
          replace hI := hI.2
          have f6 := hide hI.1
          replace hI := hI.2
          have f7 := hide hI.1
          replace hI := hI.2
          have f8 := hide hI.1
          replace hI := hI.2
          have f9 := hide hI.1
          replace hI := hI.2
          have f10 := hide hI.1
          replace hI := hI.2
          have f11 := hide hI.1
          replace hI := hI.2
          have f12 := hide hI.1
          replace hI := hI.2
          have f13 := hide hI.1
          replace hI := hI.2
          have f14 := hide hI.1
          replace hI := hI.2
          have f15 := hide hI.1
          replace hI := hI.2
          have f16 := hide hI.1
          replace hI := hI.2
          have f17 := hide hI.1
          replace hI := hI.2
          have f18 := hide hI.1
          replace hI := hI.2
          have f19 := hide hI.1
          replace hI := hI.2
          have f20 := hide hI.1
          replace hI := hI.2
          have f21 := hide hI.1
          replace hI := hI.2
          have f22 := hide hI
          clear hI
          have r00 := hG.1.size
          obtain rfl := f1.out (hD.on 1 (by kernel_rfl))
          have g20 := f20.out (hD.on 20 (by kernel_rfl))
          obtain rfl := f21.out (hD.on 21 (by kernel_rfl))
          try simp only [puts, Act.put, List.setIfInBounds_toArray, List.set_cons_zero, List.set_cons_succ]
          obtain ⟨g1, c1, rfl, hO1⟩ := g20
          have bC0 := hG.2.1 hL
          have z0 := bC0.frozen 2
          have z1 := bC0.cell 2 rfl
          go_simp
          have hb : True := trivial
          exact hK.out _ undef _ (by simp only [puts, Act.put, List.setIfInBounds_toArray, List.set_cons_zero, List.set_cons_succ] <;> rfl) ⟨⟨hG.1.set 2 _, fun h => (by cases h), fun h => absurd (h.symm.trans (hD.on 20 (by kernel_rfl))) (by decide)⟩, (fun h => f0.out h), (fun h => f1.out h), (fun h => f2.out h), (fun h => f3.out h), (fun h => f4.out h), (fun h => f5.out h), (fun h => f6.out h), (fun h => f7.out h), (fun h => f8.out h), (fun h => f9.out h), (fun h => f10.out h), (fun h => f11.out h), (fun h => f12.out h), (fun h => f13.out h), (fun h => f14.out h), (fun h => f15.out h), (fun h => f16.out h), (fun h => f17.out h), (fun h => f18.out h), (fun h => (fun h => (fun h21 => absurd (h21.symm.trans (hD.on 20 (by kernel_rfl))) (by decide))) (f19.out h)), (fun h => (fun h => let ⟨g2, c2, e, ho⟩ := h; ⟨g2, c2, e, ho.setO bC0 (by decide) _⟩) (f20.out h)), (fun h => f21.out h), (fun _ => ⟨⟨hD.on 1 (by kernel_rfl), hD.on 20 (by kernel_rfl)⟩, g1, c1, rfl, bC0.set 2 _⟩)⟩
      intro L vs W hlen hall hI
      obtain ⟨x0, x1, x2, x3, x4, x5, x6, x7, x8, x9, x10, x11, x12, x13, x14, x15, x16, x17, x18, x19, x20, x21, x22, rfl⟩ := len23 hlen
      have hG := hI.1
      replace hI := hI.2
      have f0 := hide hI.1
      replace hI := hI.2
      have f1 := hide hI.1
      replace hI := hI.2
      have f2 := hide hI.1
      replace hI := hI.2
      have f3 := hide hI.1
      replace hI := hI.2
      have f4 := hide hI.1
      replace hI := hI.2
      have f5 := hide hI.1
      replace hI := hI.2
      have f6 := hide hI.1
      replace hI := hI.2
      have f7 := hide hI.1
      replace hI := hI.2
      have f8 := hide hI.1
      replace hI := hI.2
      have f9 := hide hI.1
      replace hI := hI.2
      have f10 := hide hI.1
      replace hI := hI.2
      have f11 := hide hI.1
      replace hI := hI.2
      have f12 := hide hI.1
      replace hI := hI.2
      have f13 := hide hI.1
      replace hI := hI.2
      have f14 := hide hI.1
      replace hI := hI.2
      have f15 := hide hI.1
      replace hI := hI.2
      have f16 := hide hI.1
      replace hI := hI.2
      have f17 := hide hI.1
      replace hI := hI.2
      have f18 := hide hI.1
      replace hI := hI.2
      have f19 := hide hI.1
      replace hI := hI.2
      have f20 := hide hI.1
      replace hI := hI.2
      have f21 := hide hI.1
      replace hI := hI.2
      have f22 := hide hI
      clear hI
      obtain rfl := f0.out (hall 0 (by decide))
      obtain rfl := f1.out (hall 1 (by decide))
      obtain rfl := f2.out (hall 2 (by decide))
      obtain rfl := f3.out (hall 3 (by decide))
      obtain rfl := f4.out (hall 4 (by decide))
      obtain rfl := f5.out (hall 5 (by decide))
      obtain rfl := f6.out (hall 6 (by decide))
      obtain rfl := f7.out (hall 7 (by decide))
      obtain rfl := f8.out (hall 8 (by decide))
      obtain rfl := f9.out (hall 9 (by decide))
      obtain rfl := f10.out (hall 10 (by decide))
      obtain rfl := f11.out (hall 11 (by decide))
      obtain rfl := f12.out (hall 12 (by decide))
      obtain rfl := f13.out (hall 13 (by decide))
      obtain rfl := f14.out (hall 14 (by decide))
      obtain rfl := f15.out (hall 15 (by decide))
      obtain rfl := f16.out (hall 16 (by decide))
      obtain rfl := f17.out (hall 17 (by decide))
      obtain rfl := f18.out (hall 18 (by decide))
      have g19 := f19.out (hall 19 (by decide))
      have g20 := f20.out (hall 20 (by decide))
      obtain rfl := f21.out (hall 21 (by decide))
      have g22 := f22.out (hall 22 (by decide))
      have hal := hide hall
      clear hall f0 f1 f2 f3 f4 f5 f6 f7 f8 f9 f10 f11 f12 f13 f14 f15 f16 f17 f18 f19 f20 f21 f22
      try simp only [puts, Act.put, List.setIfInBounds_toArray, List.set_cons_zero, List.set_cons_succ]
      obtain ⟨g1, c1, e21, hO21⟩ := g20
      obtain ⟨-, g2, c2, e22, hC23⟩ := g22
      have HN2 := hide (hG.1.blk HBN.out (show w.heap.size ≠ w.heap.size + 1 + 1 by omega) (by decide))
      have HR2 := hide (hG.1.blk HBR.out (show w.heap.size + 1 ≠ w.heap.size + 1 + 1 by omega) (by decide))
      have HB2 := hide (keeps_low_effY hG.1 (show w.heap.size ≤ w.heap.size + 1 + 1 + 1 by omega) (show w.heap.size ≤ w.heap.size + 1 + 1 by omega) HBB.out)
      have HCL := hide (HCC.out.kept hG.1 bC1 (by decide) (by decide) (by decide) (by decide))
      have HRE := hide (HRR.out.kept hG.1 bC1 (by decide) (by decide))
      have HS2 : Hid (w.heap.size + 1 + 1 + 1 ≤ W.heap.size) := hide (by have := hG.1.size; omega)
      have HOR := hide hO21
      have HC2 := hide hC23
      clear hO21 hC23 hG bZ hOR bC1 hal
      subst e21
      clear e22
      go_wp2_with fail
      go_roundw
      case rel => exact ⟨k + 1, _, by have := HK.out; omega, by go_num, HCL.out, HRE.out, by rw [HTK.out, HMC.out, List.map_append, HLr.out]; exact HOR.out, HC2.out, HN2.out, HR2.out, HB2.out, HS2.out⟩
      case measure => have := HK.out; simp [intOf]; omega
    · have hT : ((x.facts.take k).map madeFact) = (madeC x).facts := by
        show _ = (x.facts.take 8).map madeFact
        have hkk : k = min x.facts.length 8 := by omega
        congr 1
        rcases Nat.le_total x.facts.length 8 with h8 | h8
        · rw [Nat.min_eq_left h8] at hkk
          rw [List.take_of_length_le (by omega), List.take_of_length_le h8]
        · rw [Nat.min_eq_right h8] at hkk
          rw [hkk]
      have hlts : ¬ (k : Int) < x.facts.length ∨ ((k : Int) < x.facts.length ∧ ¬ (k : Int) < 8) := by omega
      rw [hT] at hown
      have HO := hide (CodeOwn.mk hcl hre hown)
      clear hT hown hlt hk hcl hre
      rcases hlts with hlt3 | ⟨hlt3, hlt4⟩
      all_goals (
        go_wp2_with fail
        exact hexit _ _ _ _ _ _ _ _ _ _ _ _ _ _ _ _ _ _ _ _ _ _ _ _ _ _ _ _ _ _ _ _ _ _ _ _ _ _ _ _ wr fv HO.out hbC hbN hbR hbr hsz)
end Go.Proofs.YtdjldidfnddpmaaGreatDoor
/- The walk of the reference's Made. Conditions: how the arguments lie in memory; that integers are of 64 bits. -/
namespace Go.Proofs.YtdjldidfnddpmaaGreatDoor
open Go.RowKit
set_option maxRecDepth 100000 in
set_option maxHeartbeats 4000000 in
theorem mader_any (x : NumsD) (xc xr xf : Value) (w : World) (hx : NumsIn w.cell? xc xr xf x) (h64 : Nums64 x) : Calls Tryz.prog 5 #[.agg #[xc, xr, xf]] w (CodeQ (madeC x) w) := by
  have HX := hide hx
  have H64 := hide h64
  obtain ⟨⟨xca, xcn, rfl, hc1, hc2, -⟩, ⟨xra, xrn, rfl, hr1, hr2, -⟩, ⟨xfa, xfn, rfl, hf1, hf2, -⟩⟩ := id hx
  have hcl : (x.clauses.length : Int) ≤ 9223372036854775807 := by omega
  have hrl : (x.repeals.length : Int) ≤ 9223372036854775807 := by omega
  have hfl : (x.facts.length : Int) ≤ 9223372036854775807 := by omega
  clear hx h64 hc1 hc2 hr1 hr2 hf1 hf2
  go_enter Tryz.func5, Tryz.ntmps5
  go_wp2_with fail
  generalize hX1 : World.alloc w _ = X1
  have zX1 : X1.heap.size = w.heap.size + 1 := by rw [← hX1]; simp
  have bX1 : Below w.heap.size w X1 := by rw [← hX1]; exact bal w _
  have bN_1 : Blk X1 (w.heap.size) [.slice xca x.clauses.length xcn, .slice xra x.repeals.length xrn, .slice xfa x.facts.length xfn] 25 := by rw [← hX1]; exact Blk.newA w _ (by first | rfl | simp)
  generalize hX2 : World.alloc X1 _ = X2
  have zX2 : X2.heap.size = w.heap.size + 1 + 1 := by rw [← hX2]; simp [zX1]
  have bX2 : Below X1.heap.size X1 X2 := by rw [← hX2]; exact bal X1 _
  have bR_2 : Blk X2 (w.heap.size + 1) [.slice none 0 0, .slice none 0 0, .slice none 0 0] 32 := by rw [← hX2, ← zX1]; exact Blk.newA X1 _ (by first | rfl | simp)
  have bN_2 := bN_1.later bX2
  generalize hX3 : World.alloc X2 _ = X3
  have zX3 : X3.heap.size = w.heap.size + 1 + 1 + 1 := by rw [← hX3]; simp [zX2]
  have bX3 : Below X2.heap.size X2 X3 := by rw [← hX3]; exact bal X2 _
  have bC : Blk X3 (w.heap.size + 1 + 1) [.slice none 0 0, .slice none 0 0, .slice none 0 0] 32 := by rw [← hX3, ← zX2]; exact Blk.newA X2 _ (by first | rfl | simp)
  have bN := bN_2.later bX3
  have bR := bR_2.later bX3
  have Xb := below2 (below2 (bX1) bX2) bX3
  have Xz := zX3
  clear hX1 zX1 bX1 hX2 zX2 bX2 hX3 zX3 bX3 bN_1 bN_2 bR_2
  refine made_loop1 w X3 x xca xra xfa xcn xrn xfn HX H64 hcl bN bR bC Xb (by omega) _ _ _ _ _ _ _ _ _ _ _ _ _ _ _ _ _ _ _ _ _ _ _ _ _ _ _ _ _ _ _ _ _ _ _ _ _ _ _ _ _ _ _ _ _ _ _ _ _ _ _ _ _ _ _ _ _ _ _ _ _ _ _ _ _ _ _ _ _ _ _ _ _ _ _ _ _ _ _ _ _ _ _ _ _ _ _ _ _ _ _ _ _ _ _ _ _ _ _ _ _ _ _ _ _ _ _ _ _ _ _ _ _ _ _ _ _ _ _ _ _ _ _ _ _ _ _ _ _ ?_
  clear bN bR bC Xb Xz
  intro t4 t5 t6 t11 t12 t13 t14 t15 t16 t17 t18 t19 t20 t21 t22 t23 t24 t25 t26 t27 t28 t29 t30 t31 t32 t33 t34 t35 t36 t37 t38 t39 t40 t41 t42 t43 t44 t45 t46 t47 t48 t49 t50 t51 t52 wr cv hcv bC bN bR hb hs
  obtain ⟨ca, cc, rfl⟩ := hcv.form
  have hm : (x.clauses.take 8).length = ((x.clauses.take 8).map madeClause).length := (List.length_map ..).symm
  generalize ((x.clauses.take 8).map madeClause).length = m at hm bC hcv ⊢
  have n1 := bN.cell 1 rfl
  go_wp2_with fail
  refine made_loop2 w wr x xca xra xfa xcn xrn xfn HX H64 hrl ca m cc hm.symm hcv bN bR bC hb hs _ _ _ _ _ _ _ _ _ _ _ _ _ _ _ _ _ _ _ _ _ _ _ _ _ _ _ _ _ _ _ _ _ _ _ _ _ _ _ _ _ _ _ _ _ _ _ _ _ _ _ _ _ _ _ _ _ _ _ _ _ _ _ _ _ _ _ _ _ _ _ _ _ _ _ _ _ _ _ _ _ _ _ _ _ _ _ _ _ _ _ _ _ _ _ _ _ _ _ _ _ _ _ _ _ _ _ _ _ _ _ _ _ _ _ _ _ _ _ _ _ _ _ _ _ _ _ _ _ ?_
  clear hcv bC bN bR hb hs n1 hm
  intro s7 s8 s53 s54 s55 s56 s57 s58 s59 s60 s61 s62 s63 s64 s65 s66 s67 s68 s69 s70 s71 s72 s73 s74 s75 s76 s77 s78 s79 s80 s81 s82 s83 s84 s85 s86 s87 s88 s89 s90 s91 s92 wz rv hcv hre bC bN bR hb hs
  obtain ⟨ra, rc, rfl⟩ := own_form hre
  generalize (List.map repealC (madeC x).repeals).length = rm at *
  go_wp2_with fail
  refine made_loop3 w wz x xca xra xfa xcn xrn xfn HX H64 hfl ca m cc ra rm rc hcv hre bN bR bC hb hs _ _ _ _ _ _ _ _ _ _ _ _ _ _ _ _ _ _ _ _ _ _ _ _ _ _ _ _ _ _ _ _ _ _ _ _ _ _ _ _ _ _ _ _ _ _ _ _ _ _ _ _ _ _ _ _ _ _ _ _ _ _ _ _ _ _ _ _ _ _ _ _ _ _ _ _ _ _ _ _ _ _ _ _ _ _ _ _ _ _ _ _ _ _ _ _ _ _ _ _ _ _ _ _ _ _ _ _ _ _ _ _ _ _ _ _ _ _ _ _ _ _ _ _ _ _ _ _ _ ?_
  clear hcv bC bN bR hb hs hre
  intro r9 r10 r93 r94 r95 r96 r97 r98 r99 r100 r101 r102 r103 r104 r105 r106 r107 r108 r109 r110 r111 r112 r113 r114 r115 r116 r117 r118 r119 r120 r121 r122 r123 r124 r125 r126 r127 r128 r129 r130 wy fv hco bC bN bR hb hs
  obtain ⟨fa, fc, rfl⟩ := own_form hco.fa
  generalize (List.map factC (madeC x).facts).length = fm at *
  have b0 := bC.cell 0 rfl
  have b1 := bC.cell 1 rfl
  have b2 := bC.cell 2 rfl
  have r0 := bR.cell 0 rfl
  have r1 := bR.cell 1 rfl
  have r2 := bR.cell 2 rfl
  have f0 := bR.frozen 0
  have f1 := bR.frozen 1
  have f2 := bR.frozen 2
  have HCO := hide hco
  have HBR := hide bR
  have HB := hide hb
  have HS := hide hs
  clear hco bC bN hb hs
  obtain ⟨hy2, hy3', -⟩ := set3 HBR.out (.slice ca m cc) (.slice ra rm rc) (.slice fa fm fc)
  have hy3 := hy3' _ _ HB.out (by omega)
  have hE : EffY (w.heap.size + 1 + 1 + 1) 26 (w.heap.size + 1) wy _ := (((EffY.of_below (Below.refl _ wy)).set 0 (.slice ca m cc)).set 1 (.slice ra rm rc)).set 2 (.slice fa fm fc)
  have HCF := hide (CodeOwn.mk (HCO.out.cl.kept hE HBR.out (by decide) (by decide) (by decide) (by decide)) (HCO.out.re.kept hE HBR.out (by decide) (by decide)) (HCO.out.fa.kept hE HBR.out (by decide) (by decide)))
  have HSZ := hide hE.size
  clear hE hy3'
  go_wp2_with fail
  generalize World.setCell (World.setCell _ _ _) ⟨w.heap.size + 1, 2, none⟩ _ = Wf at hy2 hy3 HCF HSZ ⊢
  have x0 := hy2.cell 0 rfl
  have x1 := hy2.cell 1 rfl
  have x2 := hy2.cell 2 rfl
  refine bodyPost_ret (v := .agg #[.slice ca m cc, .slice ra rm rc, .slice fa fm fc]) (by simp [results, Tryz.results5, go_sem, x0, x1, x2]) rfl ?_
  exact ⟨_, _, _, w.heap.size + 1 + 1 + 1, rfl, by omega, by have := HSZ.out; have := HS.out; omega, HCF.out, hy3⟩
end Go.Proofs.YtdjldidfnddpmaaGreatDoor
/- Copies made by an append to an empty slice; the walk of the reference's Copy. Conditions: how the laws lie in memory; sizes. -/
namespace Go.Proofs.YtdjldidfnddpmaaGreatDoor
open Go.RowKit
theorem lit_ints (w : World) : OwnI (w.alloc (.cells #[] 3)) w.heap.size (.slice (some ⟨w.heap.size, 0, none⟩) 0 0) [] := World.ownsRow_lit w #[] 0 (Nat.le_refl _) (by unfold maxLen; omega) rfl
/-- append([]int{}, x...) -/
theorem app_copyI {w : World} {ops : Array Oper} {rest : List Oper} {o : Oper} {a : Act} {Q : Exit → Act → World → Prop} (hgd : o.guard = none) (s x : Operand)
    (ho : o.op = .call { callee := .builtin .append, args := #[s, x], argTypes := #[36, 36] }) (hs : a.eval s = .slice (some ⟨w.heap.size, 0, none⟩) 0 0) (xv : Value) (lx : List Int)
    (hx : a.eval x = xv) (hxs : IntsAt w xv lx) (hlen : lx.length < 100000)
    (h : ∀ va vc w', IntsIn (frmY w.heap.size 3 w') (.slice va lx.length vc) lx → Below w.heap.size w w' → wpList Tryz.prog ops Q rest (a.put o.dst (.slice va lx.length vc)) w') :
    wpList Tryz.prog ops Q (o :: rest) a (w.alloc (.cells #[] 3)) := by
  refine app_intsS hgd s x ho w.heap.size _ [] hs (lit_ints w) xv lx hx (hxs.below (bal w _)) (by simp; omega) (by simp) ?_
  intro v' w' hO hE _
  rw [List.nil_append] at hO
  obtain ⟨va, vc, rfl⟩ := hO.form
  refine h va vc w' (hO.intsY (Nat.le_refl _)) ⟨hE.os, hE.tape, hE.output, by have := hE.size; simp at this; omega, fun k hk => ?_⟩
  rw [hE.block k (by simp; omega) (by intro e; have e : k = w.heap.size := Option.some.inj e; omega), Below.heap_alloc _ _ _ hk]
/-- append([]T{}, x...) -/
theorem app_copyR {w : World} {ops : Array Oper} {rest : List Oper} {o : Oper} {a : Act} {Q : Exit → Act → World → Prop} {e t : TypeId} {k by_ : Nat} {z : Value}
    (hinfo : (Tryz.prog.info? e).map (fun i => (i.zero, i.size, i.bytes)) = some (some z, k, by_)) (hzk : z.cells.size = k) (hk : 0 < k) (hu : Tryz.prog.underlying t = some (.slice e)) (hgd : o.guard = none) (s x : Operand)
    (ho : o.op = .call { callee := .builtin .append, args := #[s, x], argTypes := #[t, t] }) (hs : a.eval s = .slice (some ⟨w.heap.size, 0, none⟩) 0 0)
    {α : Type} {f : α → List Value} {d : α} (hf : ∀ x, (f x).length = k) (h1 : ∀ x, ∀ u ∈ f x, u.oneCell' = true) (xa : Option Addr) (m c : Nat) (lx : List α) (hm : m = lx.length) (hx : a.eval x = .slice xa m c) (hxs : RecIn f d k w.cell? (.slice xa m c) lx) (hlen : lx.length * by_ ≤ 140737488355328) (hlen2 : lx.length < 1000000)
    (h : ∀ va vc w', OwnR w' w.heap.size e k (.slice va m vc) (lx.map f) → Below w.heap.size w w' → wpList Tryz.prog ops Q rest (a.put o.dst (.slice va m vc)) w') :
    wpList Tryz.prog ops Q (o :: rest) a (w.alloc (.cells #[] e)) := by
  subst hm
  refine app_recsE hinfo hzk hk hu hgd s x ho w.heap.size _ [] hs (lit_recsK w e k (Nat.le_refl _)) xa lx.length c (lx.map f) (by rw [List.length_map]) hx (fun r hr => by obtain ⟨x, -, rfl⟩ := List.mem_map.1 hr; exact hf x) (fun u hu => by
    obtain ⟨r, hr, hu⟩ := List.mem_flatten.1 hu
    obtain ⟨x, -, rfl⟩ := List.mem_map.1 hr
    exact h1 x u hu) (fun b hb j u hj => keep (bal w _) (rec_news hf hk (by rw [hb] at hxs; exact hxs) j u hj)) (fun hn => by
    cases lx with
    | nil => rfl
    | cons y t => obtain ⟨b, o, e, -⟩ := hxs.cell (i := 0) (by simp); rw [hn] at e; cases e) (by rw [List.length_nil, Nat.zero_add, List.length_map]; exact hlen) (by rw [List.length_nil, Nat.zero_add, List.length_map]; exact hlen2) (by simp) ?_
  intro v' w' hO hE _
  rw [List.nil_append] at hO
  obtain ⟨va, vc, rfl⟩ := own_form hO
  rw [List.length_map] at hO ⊢
  refine h va vc w' hO ⟨hE.os, hE.tape, hE.output, by have := hE.size; simp at this; omega, fun k hk => ?_⟩
  rw [hE.block k (by simp; omega) (by intro e; have e : k = w.heap.size := Option.some.inj e; omega), Below.heap_alloc _ _ _ hk]
theorem OwnR.weaken {w : World} {B B' k : Nat} {e : TypeId} {v : Value} {L : List (List Value)} (h : OwnR w B e k v L) (hB : B' ≤ B) : OwnR w B' e k v L := by
  obtain ⟨⟨h1, h2⟩, h3⟩ := h
  refine ⟨⟨h1, h2.imp id ?_⟩, h3⟩
  rintro ⟨g, cap, cur, e1, e2, e3⟩
  exact ⟨g, cap, cur, e1, Nat.le_trans hB e2, e3⟩
theorem take_succD {α : Type} (l : List α) (d : α) {k : Nat} (h : k < l.length) : l.take (k + 1) = l.take k ++ [l.getD k d] := take_succ' l k d h
end Go.Proofs.YtdjldidfnddpmaaGreatDoor
/- The walk of the law's inserted. Conditions: how the list lies in memory; sizes. -/
namespace Go.Proofs.YtdjldidfnddpmaaGreatDoor
open Go.RowKit
/-- what inserted has made of the first numbers: the list, and whether the number is in it -/
def insS (n : Int) (a : List Int × Bool) (x : Int) : List Int × Bool := if a.2 = false ∧ n < x then (a.1 ++ [n, x], true) else (a.1 ++ [x], a.2)
def insK (l : List Int) (n : Int) (k : Nat) : List Int × Bool := (l.take k).foldl (insS n) ([], false)
theorem insK_succ (l : List Int) (n : Int) {k : Nat} (h : k < l.length) : insK l n (k + 1) = insS n (insK l n k) (l.getD k 0) := by
  unfold insK
  rw [take_succ' l k 0 h, List.foldl_append]; rfl
theorem insS_true (n : Int) : ∀ (l acc : List Int), l.foldl (insS n) (acc, true) = (acc ++ l, true)
  | [], acc => by simp
  | x :: l, acc => by
    rw [List.foldl_cons]
    have e : insS n (acc, true) x = (acc ++ [x], true) := by simp [insS]
    rw [e, insS_true n l]; simp
theorem insS_false (n : Int) : ∀ (l acc : List Int), (fun (r : List Int × Bool) => if r.2 = true then r.1 else r.1 ++ [n]) (l.foldl (insS n) (acc, false)) = acc ++ insA n l
  | [], acc => by simp [insA]
  | x :: l, acc => by
    rw [List.foldl_cons]
    by_cases h : n < x
    · have e : insS n (acc, false) x = (acc ++ [n, x], true) := by simp [insS, h]
      rw [e, insS_true]
      simp [insA, h]
    · have e : insS n (acc, false) x = (acc ++ [x], false) := by simp [insS, h]
      rw [e, insS_false n l]
      simp [insA, h]
theorem insK_len (l : List Int) (n : Int) : ∀ k, k ≤ l.length → (insK l n k).1.length ≤ 2 * k
  | 0, _ => by simp [insK]
  | k + 1, h => by
    have ih := insK_len l n k (by omega)
    rw [insK_succ l n (by omega)]
    unfold insS
    split
    · simp; omega
    · simp; omega
theorem insK_end (l : List Int) (n : Int) (h : n ∉ l) : insertedF l n = if (insK l n l.length).2 = true then (insK l n l.length).1 else (insK l n l.length).1 ++ [n] := by
  have := insS_false n l []
  unfold insertedF insK
  rw [if_neg h, List.take_length]
  rw [List.nil_append] at this
  exact this.symm
theorem mem_take_succ {l : List Int} {n : Int} {k : Nat} (h : k < l.length) (h1 : n ∉ l.take k) (h2 : l.getD k 0 ≠ n) : n ∉ l.take (k + 1) := by
  rw [take_succ' l k 0 h, List.mem_append, List.mem_singleton]
  rintro (h3 | h3)
  · exact h1 h3
  · exact h2 h3.symm
def AnyI (l : List Int) (w : World) (e : Ending) (w' : World) : Prop := ∃ v, e = .returned v ∧ IntsIn w'.cell? v l ∧ Below w.heap.size w w'
end Go.Proofs.YtdjldidfnddpmaaGreatDoor
namespace Go.Proofs.YtdjldidfnddpmaaGreatDoor
open Go.RowKit
/-- Decide answers -/
def DecV (a : Bool) (P : List FindD) (w : World) (e : Ending) (w' : World) : Prop :=
  ∃ la ln, e = .returned (.tuple #[.bool a, .slice la P.length ln, .int .i64 0]) ∧ FindsIn w'.cell? (.slice la P.length ln) P ∧ Below w.heap.size w w'
theorem decide_ok (c : CodeD) (q : QueryD) (cv rv fv : Value) (w : World) (h : CodeIn w.cell? cv rv fv c) (hV : validC c = true) (hQ : asksB q = true) : Calls Tryz.prog 8 #[codeV cv rv fv, queryV q] w (DecV (answerB c q) (decideP c q) w) := by
  refine (decideS_any c q cv rv fv w h).mono ?_
  rintro e w4 ⟨lv, rfl, hl, hb4⟩
  rw [hV, hQ] at hl ⊢
  have he0 : errS c q = 0 := by unfold errS; rw [hV, hQ]; rfl
  rw [he0]
  simp only [Bool.and_self, Bool.true_and, if_true] at hl ⊢
  obtain ⟨la, ln, rfl, -⟩ := id hl
  exact ⟨la, ln, rfl, hl.at, hb4⟩
/-- a cell that holds a slice is no number's -/
theorem ints_setS {w : World} {p : Addr} {a : Option Addr} {n m : Nat} (hp : w.cell? p = some (.slice a n m)) (u : Value) {v : Value} {l : List Int} (h : IntsIn w.cell? v l) : IntsIn (w.setCell p u).cell? v l := by
  obtain ⟨a', c', e, h1, h2, h3⟩ := h
  refine ⟨a', c', e, h1, h2, fun i hi => ?_⟩
  obtain ⟨b, o, e2, h4⟩ := h3 i hi
  refine ⟨b, o, e2, ?_⟩
  rw [World.cell?_setCell_other _ _ _ _ (fun e3 => by rw [← e3, hp] at h4; cases h4)]
  exact h4
theorem clauses_put {w : World} {A B g n : Nat} {l : List ClauseD} (h : ClausesOwn w A B (.slice (some ⟨g, 0, none⟩) l.length n) l) {k : Nat} (hk : k < l.length) (b : Bool) {nv : Value} {ns : List Int} (hn : IntsIn w.cell? nv ns) :
    ClausesIn (w.setCell ⟨g, k * 6 + (if b then 3 else 4), none⟩ nv).cell? (.slice (some ⟨g, 0, none⟩) l.length n) (l.set k (if b then { l.getD k clause0 with needs := ns } else { l.getD k clause0 with bars := ns })) := by
  obtain ⟨L, hOR, hl, hs⟩ := h
  have hOR0 := hOR
  rw [← hl] at hOR
  have hj : (if b then 3 else 4) < 6 := by cases b <;> decide
  have hOR2 := hOR.set k _ (by rw [hl]; exact hk) hj nv
  obtain ⟨nv0, bv0, e0, hn0, hb0⟩ := hs k hk
  have hp : ∃ a n m, w.cell? ⟨g, k * 6 + (if b then 3 else 4), none⟩ = some (.slice a n m) := by
    obtain ⟨a1, c1, rfl, -⟩ := id hn0
    obtain ⟨a2, c2, rfl, -⟩ := id hb0
    cases b
    · exact ⟨_, _, _, hOR.cell k 4 (by rw [hl]; exact hk) (by decide) (by rw [e0]; rfl)⟩
    · exact ⟨_, _, _, hOR.cell k 3 (by rw [hl]; exact hk) (by decide) (by rw [e0]; rfl)⟩
  obtain ⟨pa, pn, pm, hp⟩ := hp
  have K : ∀ {v : Value} {l : List Int}, IntsIn w.cell? v l → IntsIn (w.setCell ⟨g, k * 6 + (if b then 3 else 4), none⟩ nv).cell? v l := fun h => ints_setS hp nv h
  have hcc : l.length ≤ n ∧ n ≤ 9223372036854775807 := by
    rcases hOR.form with ⟨e1, -⟩ | ⟨g', c', cur, e1, e2, e3, e4, e5⟩
    · cases e1
    · cases e1; rw [hl] at e4; exact ⟨by omega, by simpa [maxLen] using e5⟩
  have hlen : (l.set k (if b then { l.getD k clause0 with needs := ns } else { l.getD k clause0 with bars := ns })).length = l.length := List.length_set
  have hlL : (L.set k ((L.getD k []).set (if b then 3 else 4) nv)).length = l.length := by rw [List.length_set, hl]
  refine ⟨_, n, by rw [hlen], by rw [hlen]; exact hcc.1, hcc.2, fun i hi => ?_⟩
  rw [hlen] at hi
  by_cases e : i = k
  · subst e
    rw [setC_eq hi]
    have hg : (L.set i ((L.getD i []).set (if b then 3 else 4) nv)).getD i [] = (L.getD i []).set (if b then 3 else 4) nv := by
      rw [List.getD_eq_getElem?_getD, List.getElem?_set_self (by rw [hl]; exact hi)]; rfl
    cases b
    · have cc : ∀ (j : Nat) (u : Value), j < 6 → (clauseC { l.getD i clause0 with bars := ns } nv0 nv)[j]? = some u → (w.setCell ⟨g, i * 6 + 4, none⟩ nv).cell? ⟨g, 0 + i * 6 + j, none⟩ = some u := fun j u hj hu => by
        rw [Nat.zero_add]; exact hOR2.cell i j (by rw [hlL]; exact hi) hj (by rw [hg, e0]; exact hu)
      exact ⟨g, 0, nv0, nv, rfl, cc 0 _ (by omega) rfl, cc 1 _ (by omega) rfl, cc 2 _ (by omega) rfl, cc 3 _ (by omega) rfl, cc 4 _ (by omega) rfl, cc 5 _ (by omega) rfl, K (hn0.keeps (keeps_frmY _ _ _)).at, K hn⟩
    · have cc : ∀ (j : Nat) (u : Value), j < 6 → (clauseC { l.getD i clause0 with needs := ns } nv bv0)[j]? = some u → (w.setCell ⟨g, i * 6 + 3, none⟩ nv).cell? ⟨g, 0 + i * 6 + j, none⟩ = some u := fun j u hj hu => by
        rw [Nat.zero_add]; exact hOR2.cell i j (by rw [hlL]; exact hi) hj (by rw [hg, e0]; exact hu)
      exact ⟨g, 0, nv, bv0, rfl, cc 0 _ (by omega) rfl, cc 1 _ (by omega) rfl, cc 2 _ (by omega) rfl, cc 3 _ (by omega) rfl, cc 4 _ (by omega) rfl, cc 5 _ (by omega) rfl, K hn, K (hb0.keeps (keeps_frmY _ _ _)).at⟩
  · rw [setC_ne _ e]
    obtain ⟨nv1, bv1, e1, hn1, hb1⟩ := hs i hi
    have hg : (L.set k ((L.getD k []).set (if b then 3 else 4) nv)).getD i [] = L.getD i [] := by
      rw [List.getD_eq_getElem?_getD, List.getElem?_set_ne (Ne.symm e), List.getD_eq_getElem?_getD]
    have cc : ∀ (j : Nat) (u : Value), j < 6 → (clauseC (l.getD i clause0) nv1 bv1)[j]? = some u → (w.setCell ⟨g, k * 6 + (if b then 3 else 4), none⟩ nv).cell? ⟨g, 0 + i * 6 + j, none⟩ = some u := fun j u hj hu => by
      rw [Nat.zero_add]; exact hOR2.cell i j (by rw [hlL]; exact hi) hj (by rw [hg, e1]; exact hu)
    exact ⟨g, 0, nv1, bv1, rfl, cc 0 _ (by omega) rfl, cc 1 _ (by omega) rfl, cc 2 _ (by omega) rfl, cc 3 _ (by omega) rfl, cc 4 _ (by omega) rfl, cc 5 _ (by omega) rfl, K (hn1.keeps (keeps_frmY _ _ _)).at, K (hb1.keeps (keeps_frmY _ _ _)).at⟩
/-- own laws of which one clause has got another list, in memory -/
theorem code_put {w : World} {A B g n : Nat} {rv fv : Value} {c : CodeD} (h : CodeOwn w A B (.slice (some ⟨g, 0, none⟩) c.clauses.length n) rv fv c) {k : Nat} (hk : k < c.clauses.length) (b : Bool) {nv : Value} {ns : List Int} (hn : IntsIn w.cell? nv ns) :
    CodeIn (w.setCell ⟨g, k * 6 + (if b then 3 else 4), none⟩ nv).cell? (.slice (some ⟨g, 0, none⟩) c.clauses.length n) rv fv ⟨c.clauses.set k (if b then { c.clauses.getD k clause0 with needs := ns } else { c.clauses.getD k clause0 with bars := ns }), c.repeals, c.facts⟩ := by
  obtain ⟨L, hOR, hl, -⟩ := id h.cl
  rw [← hl] at hOR
  have hg : ∀ b' : Nat, ∀ (t : TypeId) (kk : Nat) (v : Value) (L' : List (List Value)), t ≠ 38 → OwnR w b' t kk v L' → OwnR (w.setCell ⟨g, k * 6 + (if b then 3 else 4), none⟩ nv) b' t kk v L' := fun b' t kk v L' ht h' => by
    obtain ⟨⟨k1, k2⟩, k3⟩ := h'
    refine ⟨⟨k1, k2.imp id ?_⟩, k3⟩
    rintro ⟨g', cap, cur, e1, e2, e3, e4⟩
    refine ⟨g', cap, cur, e1, e2, ?_, e4⟩
    refine (Below.heap_setCell _ _ _ g' ?_).trans e3
    show g' ≠ g
    rintro rfl
    rcases hOR.form with ⟨e1, -⟩ | ⟨g2, c2, cur2, e5, e6, e7, -⟩
    · cases e1
    · cases e5
      rw [e3] at e7
      simp at e7; exact ht e7.2
  refine ⟨?_, RecIn.at (RecIn.of_own (hg _ _ _ _ _ (by decide) h.re) (fun _ => rfl) (Nat.le_refl _)), RecIn.at (RecIn.of_own (hg _ _ _ _ _ (by decide) h.fa) (fun _ => rfl) (Nat.le_refl _))⟩
  have := clauses_put h.cl hk b hn
  exact this
theorem clause_gives {c : CodeD} (hV : validC c = true) {k : Nat} (hk : k < c.clauses.length) : 0 ≤ (c.clauses.getD k clause0).gives ∧ (c.clauses.getD k clause0).gives ≤ 19 := by
  have h := valid_clause hV hk
  simp only [clauseB, Bool.and_eq_true, inB_iff] at h
  exact h.1.1.2
/-- where a clause of own laws lies -/
theorem clauses_at {w : World} {A B n : Nat} {a : Option Addr} {l : List ClauseD} (h : ClausesOwn w A B (.slice a l.length n) l) {k : Nat} (hk : k < l.length) :
    ∃ g, a = some ⟨g, 0, none⟩ ∧ B ≤ g ∧ g < w.heap.size ∧ (∀ j, w.frozen? ⟨g, j, none⟩ = false) ∧ ∃ nv bv, IntsIn (frmY A 3 w) nv (l.getD k clause0).needs ∧ IntsIn (frmY A 3 w) bv (l.getD k clause0).bars ∧ w.cell? ⟨g, k * 6 + 3, none⟩ = some nv ∧ w.cell? ⟨g, k * 6 + 4, none⟩ = some bv := by
  obtain ⟨L, hOR, hl, hs⟩ := h
  obtain ⟨nv, bv, e0, hn, hb⟩ := hs k hk
  rw [← hl] at hOR
  rcases hOR.form with ⟨e1, e2⟩ | ⟨g, c, cur, e1, e2, e3, -⟩
  · rw [e2] at hl; simp at hl; omega
  · cases e1
    exact ⟨g, rfl, e2, (Array.getElem?_eq_some_iff.1 e3).1, fun j => hOR.frozen j, nv, bv, hn, hb, hOR.cell k 3 (by rw [hl]; exact hk) (by decide) (by rw [e0]; rfl), hOR.cell k 4 (by rw [hl]; exact hk) (by decide) (by rw [e0]; rfl)⟩
/-- a clause of own laws, cell by cell -/
theorem clauses_rec {w : World} {A B n : Nat} {a : Option Addr} {l : List ClauseD} (h : ClausesOwn w A B (.slice a l.length n) l) {k : Nat} (hk : k < l.length) :
    ∃ g na nn ba bn, a = some ⟨g, 0, none⟩ ∧ IntsIn (frmY A 3 w) (.slice na (l.getD k clause0).needs.length nn) (l.getD k clause0).needs ∧ IntsIn (frmY A 3 w) (.slice ba (l.getD k clause0).bars.length bn) (l.getD k clause0).bars ∧
      ∀ j u, (clauseC (l.getD k clause0) (.slice na (l.getD k clause0).needs.length nn) (.slice ba (l.getD k clause0).bars.length bn))[j]? = some u → w.cell? ⟨g, k * 6 + j, none⟩ = some u := by
  obtain ⟨L, hOR, hl, hs⟩ := h
  obtain ⟨nv, bv, e0, hn, hb⟩ := hs k hk
  rw [← hl] at hOR
  rcases hOR.form with ⟨e1, e2⟩ | ⟨g, c, cur, e1, e2, e3, -⟩
  · rw [e2] at hl; simp at hl; omega
  · cases e1
    obtain ⟨na, nn, rfl, -⟩ := id hn
    obtain ⟨ba, bn, rfl, -⟩ := id hb
    refine ⟨g, na, nn, ba, bn, rfl, hn, hb, fun j u hu => ?_⟩
    have hj : j < 6 := (List.getElem?_eq_some_iff.1 hu).1
    exact hOR.cell k j (by rw [hl]; exact hk) hj (by rw [e0]; exact hu)
end Go.Proofs.YtdjldidfnddpmaaGreatDoor
