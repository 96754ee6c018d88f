/- The walk of the loop over the choices of ProgramAdds. Conditions: how the values lie in memory; that integers are of 64 bits. -/
import Derived.Test.YtcaklldmcbpbfaaLwAdds1
import Derived.Test.YtcaklldmcbpbfaaBlkB
namespace Go.Proofs.Ytcaklldmcbpbfaa
open Go.RowKit

noncomputable def addsLoop2 : Code := (Try.f9.body.bind fun c => (loopsOf c)[1]?).getD .skip
theorem in4 {l : List Int} {q : Nat} (hq : q < l.length) (h : ∀ q, q < l.length → ∃ t : Nat, t < 4 ∧ l.getD q 0 = t) : ∃ t : Nat, t < 4 ∧ l.getD q 0 = t := h q hq
set_option linter.unusedSimpArgs false in
set_option maxRecDepth 100000 in
set_option maxHeartbeats 4000000 in
theorem adds_loop2 (W9 : World) (PB QB RB k T : Nat) (rows : List RowD) (gain : List Int) (rA rB rS rG : RowD) (ra ga : Option Addr) (rc gc : Nat)
    (bP9 : Blk W9 PB [.int .i64 k, .slice ra rows.length rc, .slice ga gain.length gc] 29) (bQ9 : Blk W9 QB [.int .i64 k, .slice (some ⟨RB, 0, none⟩) 4 4, .slice ga gain.length gc] 29)
    (h4 : RowsAt W9 (.slice (some ⟨RB, 0, none⟩) 4 4) [rA, rB, rS, rG]) (hg9 : IntsAt W9 (.slice ga gain.length gc) gain) (HVQ : Hid (validB ⟨k, [rA, rB, rS, rG], gain⟩ = true))
    (HK2 : Hid (∀ s, keptB rA s = true → keptB rB s = true → keptB rS s = true)) (HK3 : Hid (∀ s, keptB rG s = keptB rA s)) (hk8 : k ≤ 8) (HT : Hid (T = 2 ^ k)) (hT1 : 1 ≤ T) (hT2 : T ≤ 256) (hTc : wrap64 (2 ^ k) = (T : Int)) (Q0 : Exit → Act → World → Prop) (u0 u1 u2 u3 u4 u5 u6 u7 u8 u9 u10 u11 u13 u14 u15 u16 u17 u18 u19 u22 u23 u24 u25 u26 u27 u28 u29 u30 u31 u32 u33 u34 u35 u36 u37 u38 u39 u40 u41 u42 u43 u44 u45 u46 u47 u48 u49 u50 u51 u52 u53 u54 u55 u56 u57 u58 u59 u60 u61 u62 u63 u64 u65 u66 u67 u68 u69 u70 u71 u72 u73 u74 u75 u76 u77 u78 u79 u80 u81 u82 u83 u84 u85 u86 u87 u88 u89 u90 u91 u92 u93 u94 u95 u96 u97 u98 u99 u100 u101 u102 u103 u104 u105 u106 u107 u108 u109 u110 u111 u112 u113 u114 u115 u116 u117 u118 u119 u120 u121 u122 u123 u124 u125 u126 u127 u128 u129 u130 u131 u132 u133 u134 u135 u136 u137 u138 u139 u140 u141 u142 u143 u144 u145 u146 u147 u148 u149 u150 u151 u152 u153 u154 u155 u156 u157 u158 u159 u160 u161 u162 u163 u164 u165 u166 u167 u168 u169 u170 u171 u172 u173 u174 u175 u176 u177 : Value)
    (hexit : ∀ (t10 t22 t23 t24 t125 t126 t127 t128 t129 t130 t131 t132 t133 t134 t135 t136 t137 t138 t139 t140 t141 t142 t143 t144 t145 t146 t147 t148 t149 t150 t151 t152 t153 t154 t155 t156 t157 t158 t159 t160 t161 t162 t163 t164 t165 t166 t167 t168 t169 t170 t171 t172 t173 t174 t175 t176 : Value) (wr : World), Below W9.heap.size W9 wr → Q0 (.exit 2) ⟨#[u0, u1, u2, u3, u4, u5, u6, u7, u8, u9, t10, u11, .pointer (some ⟨PB, 0, none⟩), u13, u14, u15, u16, u17, u18, u19, .pointer (some ⟨QB, 0, none⟩), .int .i64 T, t22, t23, t24, u25, u26, u27, u28, u29, u30, u31, u32, u33, u34, u35, u36, u37, u38, u39, u40, u41, u42, u43, u44, u45, u46, u47, u48, u49, u50, u51, u52, u53, u54, u55, u56, u57, u58, u59, u60, u61, u62, u63, u64, u65, u66, u67, u68, u69, u70, u71, u72, u73, u74, u75, u76, u77, u78, u79, u80, u81, u82, u83, u84, u85, u86, u87, u88, u89, u90, u91, u92, u93, u94, u95, u96, u97, u98, u99, u100, u101, u102, u103, u104, u105, u106, u107, u108, u109, u110, u111, u112, u113, u114, u115, u116, u117, u118, u119, u120, u121, u122, u123, u124, t125, t126, t127, t128, t129, t130, t131, t132, t133, t134, t135, t136, t137, t138, t139, t140, t141, t142, t143, t144, t145, t146, t147, t148, t149, t150, t151, t152, t153, t154, t155, t156, t157, t158, t159, t160, t161, t162, t163, t164, t165, t166, t167, t168, t169, t170, t171, t172, t173, t174, t175, t176, u177], []⟩ wr) :
    Code.wp Try.prog (Code.loop addsLoop2) Q0 ⟨#[u0, u1, u2, u3, u4, u5, u6, u7, u8, u9, u10, u11, .pointer (some ⟨PB, 0, none⟩), u13, u14, u15, u16, u17, u18, u19, .pointer (some ⟨QB, 0, none⟩), .int .i64 0, u22, u23, u24, u25, u26, u27, u28, u29, u30, u31, u32, u33, u34, u35, u36, u37, u38, u39, u40, u41, u42, u43, u44, u45, u46, u47, u48, u49, u50, u51, u52, u53, u54, u55, u56, u57, u58, u59, u60, u61, u62, u63, u64, u65, u66, u67, u68, u69, u70, u71, u72, u73, u74, u75, u76, u77, u78, u79, u80, u81, u82, u83, u84, u85, u86, u87, u88, u89, u90, u91, u92, u93, u94, u95, u96, u97, u98, u99, u100, u101, u102, u103, u104, u105, u106, u107, u108, u109, u110, u111, u112, u113, u114, u115, u116, u117, u118, u119, u120, u121, u122, u123, u124, u125, u126, u127, u128, u129, u130, u131, u132, u133, u134, u135, u136, u137, u138, u139, u140, u141, u142, u143, u144, u145, u146, u147, u148, u149, u150, u151, u152, u153, u154, u155, u156, u157, u158, u159, u160, u161, u162, u163, u164, u165, u166, u167, u168, u169, u170, u171, u172, u173, u174, u175, u176, u177], []⟩ W9 := by
  conv => arg 2; arg 1; whnf
  dsimp only
  have HX := hide hexit
  clear hexit
  go_loopw [21] (fun i wx => ∃ s : Nat, s ≤ T ∧ i = .int .i64 s ∧ Below W9.heap.size W9 wx) (fun i _ => T - (intOf i).toNat)
  case atStart => exact ⟨0, by omega, rfl, Below.refl _ _⟩
  case round =>
    obtain ⟨s, hs, rfl, hbs⟩ := hrel
    obtain ⟨ws, rfl⟩ : ∃ W : World, W = wr := ⟨_, rfl⟩
    have p0 := (bP9.later hbs).cell 0 rfl
    by_cases hlt : s < T
    · have hs2 : s < 2 ^ k := by have := HT.out; omega
      have bQs := bQ9.later hbs
      have q0 := bQs.cell 0 rfl
      have q1 := bQs.cell 1 rfl
      have q2 := bQs.cell 2 rfl
      go_wp2_with fail
      refine (broken_any ⟨k, [rA, rB, rS, rG], gain⟩ (.slice (some ⟨RB, 0, none⟩) 4 4) _ s _ (h4.below hbs) (hg9.below hbs)).mono ?_
      rintro e w5 ⟨lv, rfl, hlv, hb5⟩
      rw [brokenF_in HVQ.out rfl hs2] at hlv
      have hl5 : IntsAt w5 lv (brokenUp [rA, rB, rS, rG] s 4) := hlv.keeps (keeps_frm _ _)
      obtain ⟨la, lc, rfl, hl1, hl2, hlc⟩ := id hl5
      have HIN := hide (fun q (hq : q < (brokenUp [rA, rB, rS, rG] s 4).length) => broken_low hq)
      have HM := hide (fun i => broken_mem [rA, rB, rS, rG] s 4 i)
      have HLC := hide hlc
      have hlm : ((brokenUp [rA, rB, rS, rG] s 4).length : Int) ≤ 9223372036854775807 := by omega
      generalize brokenUp [rA, rB, rS, rG] s 4 = L at hlm HIN HM HLC ⊢
      clear hlv hl5 hl1 hl2 hlc q0 q1 q2 p0
      go_wp2_with fail
      generalize hW6 : World.alloc w5 _ = W6
      have hb6 : Below w5.heap.size w5 W6 := by rw [← hW6]; exact bal w5 _
      have bI6 : Blk W6 w5.heap.size [.bool false, .bool false, .bool false, .bool false] 65 := by rw [← hW6]; exact Blk.newA w5 _ rfl
      clear hW6
      go_loopw [24] (fun i wr => ∃ q : Nat, q ≤ L.length ∧ i = .int .i64 q ∧ Blk wr w5.heap.size [.bool (memB (L.take q) 0), .bool (memB (L.take q) 1), .bool (memB (L.take q) 2), .bool (memB (L.take q) 3)] 65 ∧ Below w5.heap.size w5 wr) (fun i _ => L.length - (intOf i).toNat)
      case atStart => exact ⟨0, by omega, rfl, bI6, hb6⟩
      case round =>
        obtain ⟨q, hq0, rfl, bI, hbq⟩ := hrel
        by_cases hq : q < L.length
        · obtain ⟨b, o, rfl, hcq⟩ := HLC.out q hq
          obtain ⟨t, ht, hv⟩ := HIN.out q hq
          have cq := keep hbq hcq
          rw [hv] at cq
          clear hcq
          have hql : (q : Int) ≤ 9223372036854775807 := by omega
          match t, ht with
          | 0, _ =>
            have fI := bI.frozen 0
            have c0 := bI.cell 0 rfl
            have hbs2 := bI.set 0 (.bool true)
            have HV' : Hid (L.getD q 0 = 0) := hide hv
            clear hv
            go_wp2_with fail
            go_roundw
            case rel =>
              refine ⟨q + 1, by omega, by go_num, ?_, hbq.setCell (p := ⟨w5.heap.size, 0, none⟩) (Nat.le_refl _) _⟩
              rw [memB_take hq, memB_take hq, memB_take hq, memB_take hq, HV'.out]
              simpa using hbs2
            case measure => simp [intOf]; omega
          | 1, _ =>
            have fI := bI.frozen 1
            have c0 := bI.cell 1 rfl
            have hbs2 := bI.set 1 (.bool true)
            have HV' : Hid (L.getD q 0 = 1) := hide hv
            clear hv
            go_wp2_with fail
            go_roundw
            case rel =>
              refine ⟨q + 1, by omega, by go_num, ?_, hbq.setCell (p := ⟨w5.heap.size, 1, none⟩) (Nat.le_refl _) _⟩
              rw [memB_take hq, memB_take hq, memB_take hq, memB_take hq, HV'.out]
              simpa using hbs2
            case measure => simp [intOf]; omega
          | 2, _ =>
            have fI := bI.frozen 2
            have c0 := bI.cell 2 rfl
            have hbs2 := bI.set 2 (.bool true)
            have HV' : Hid (L.getD q 0 = 2) := hide hv
            clear hv
            go_wp2_with fail
            go_roundw
            case rel =>
              refine ⟨q + 1, by omega, by go_num, ?_, hbq.setCell (p := ⟨w5.heap.size, 2, none⟩) (Nat.le_refl _) _⟩
              rw [memB_take hq, memB_take hq, memB_take hq, memB_take hq, HV'.out]
              simpa using hbs2
            case measure => simp [intOf]; omega
          | 3, _ =>
            have fI := bI.frozen 3
            have c0 := bI.cell 3 rfl
            have hbs2 := bI.set 3 (.bool true)
            have HV' : Hid (L.getD q 0 = 3) := hide hv
            clear hv
            go_wp2_with fail
            go_roundw
            case rel =>
              refine ⟨q + 1, by omega, by go_num, ?_, hbq.setCell (p := ⟨w5.heap.size, 3, none⟩) (Nat.le_refl _) _⟩
              rw [memB_take hq, memB_take hq, memB_take hq, memB_take hq, HV'.out]
              simpa using hbs2
            case measure => simp [intOf]; omega
        · obtain rfl : q = L.length := by omega
          rw [List.take_length] at bI
          have m0 : memB L 0 = !keptB rA s := by have := HM.out 0; simpa using this
          have m1 : memB L 1 = !keptB rB s := by have := HM.out 1; simpa using this
          have m2 : memB L 2 = !keptB rS s := by have := HM.out 2; simpa using this
          have m3 : memB L 3 = !keptB rA s := by have := HM.out 3; rw [← HK3.out s]; simpa using this
          rw [m0, m1, m2, m3] at bI
          have c0 := bI.cell 0 rfl
          have c1 := bI.cell 1 rfl
          have c2 := bI.cell 2 rfl
          have c3 := bI.cell 3 rfl
          have hbe := below2 hbs (below2 hb5 hbq)
          have hk2 := HK2.out s
          clear m0 m1 m2 m3 bI hbq
          generalize keptB rA s = x0 at c0 c3 hk2
          generalize keptB rB s = x1 at c1 hk2
          generalize keptB rS s = x2 at c2 hk2
          cases x0 <;> cases x1
          all_goals
            first | (obtain rfl := hk2 rfl rfl; skip) | clear hk2
            go_wp2_with fail
            go_roundw
            case rel => exact ⟨s + 1, by omega, by go_num, hbe⟩
            case measure => simp [intOf]; omega
    · obtain rfl : s = T := by omega
      clear HK2 HK3
      go_wp2_with fail
      exact HX.out _ _ _ _ _ _ _ _ _ _ _ _ _ _ _ _ _ _ _ _ _ _ _ _ _ _ _ _ _ _ _ _ _ _ _ _ _ _ _ _ _ _ _ _ _ _ _ _ _ _ _ _ _ _ _ _ _ hbs
end Go.Proofs.Ytcaklldmcbpbfaa
