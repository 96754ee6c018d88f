/- Walks of the two inner loops of leaf of package proof: a row's numbers, with their weight, onto the sums; the least sum. Conditions: how the values lie in memory; their bounds. -/
import Derived.Test.YtppfdjjhloaopaaPmodQ
import Derived.StillTail
import Derived.StillTailTactics
namespace Go.Proofs.Ytppfdjjhloaopaa
open Go.RowKit

/-- the loops of a code, the outer ones first -/
def loopsOf : Code → List Code
  | .loop c => c :: loopsOf c
  | .seq a b => loopsOf a ++ loopsOf b
  | .block _ c => loopsOf c
  | .scope c => loopsOf c
  | .cond _ a b => loopsOf a ++ loopsOf b
  | _ => []
noncomputable def leafLoop1 : Code := (Try.f84.body.bind fun c => (loopsOf c)[1]?).getD .skip
noncomputable def leafLoop2 : Code := (Try.f84.body.bind fun c => (loopsOf c)[2]?).getD .skip
theorem Grown.at {w w' : World} {row : Option Nat} {a : Addr} {v : Value} (hg : w.grownBy w' row) (hc : w.cell? a = some v) (hne : some a.block ≠ row) : w'.cell? a = some v :=
  (World.cell?_of_block (hg.block a.block (lt_of_cell hc) hne)).trans hc
theorem Grown.set1 {a b : World} {m : Nat} (h : a.grownBy b (some m)) (j : Nat) (u : Value) : a.grownBy (World.drew (b.setCell ⟨m, j, none⟩ u)) (some m) :=
  ⟨h.os, h.tape, h.output, by have := h.size; simpa [World.setCell] using this, fun i hi hn => (Below.heap_setCell b ⟨m, j, none⟩ u i (by show i ≠ m; exact fun e => hn (by rw [e]))).trans (h.block i hi hn)⟩
theorem decL_at (d : List Int) {k : Nat} (h : k < 12) : (decL d)[k]? = some (.int .i64 (d.getD k 0)) := decL_get d h
set_option maxRecDepth 100000 in
set_option maxHeartbeats 2000000 in
theorem leaf_in (rows : List RowD) (ws : List (Int × Int)) (n k : Nat) (hn : n ≤ 12) (x t : Int) (r : RowD) (hp : ws.getD k wt0 = (x, t)) (hr : rows.getD x.toNat row0 = r) (hrl : r.coef.length = n) (hrc : coefsB r.coef = true) (ht : 1 ≤ t ∧ t ≤ 1000)
    (hsb : ∀ j i, i ≤ k + 1 → -8000000000000 ≤ sumW rows ws j i ∧ sumW rows ws j i ≤ 8000000000000) (BZ BW : Nat) (ca : Option Addr) (cc : Nat) (W : World) (hbz : Blk W BZ (decL (sumsP rows ws n k 0)) 104) (hbw : Blk W BW [.int .i64 x, .int .i64 t] 56) (hne : BZ ≠ BW)
    (hc : IntsAt W (.slice ca n cc) r.coef) (hcz : ∀ j, j < n → ∀ b o, ca = some ⟨b, o, none⟩ → b ≠ BZ) (Q0 : Exit → Act → World → Prop) (u0 u1 u2 u3 u4 u5 u6 u8 u9 u10 u12 u13 u14 u15 u16 u17 u18 u19 u20 u21 u22 u23 u24 u25 u26 u27 u28 u29 u30 u31 u32 u33 u34 u35 u36 u37 u38 u39 u40 u41 u42 u43 u44 u45 u46 u47 u48 u49 u50 u51 u52 u53 u54 u55 u56 u57 u58 u59 u60 u61 u62 u63 u64 u65 u66 u67 u68 u69 u70 u71 u72 u73 u74 u75 u76 u77 u78 u79 u80 u81 u82 u83 u84 u85 u86 u87 u88 u92 u93 u94 u95 u96 u97 u98 u99 u100 u101 u102 u103 u104 u105 u106 u107 u108 u109 u110 u111 u112 u113 u114 u115 u116 u117 u118 u119 u120 u121 u122 u123 u124 u125 u126 u127 u128 u129 u130 u131 u132 u133 u134 u135 u136 u137 : Value)
    (hexit : ∀ (t12 t13 : Value) (t92 t93 t94 t95 t96 t97 t98 t99 t100 t101 t102 t103 t104 t105 : Value) (wr : World), Blk wr BZ (decL (sumsP rows ws n (k + 1) 0)) 104 → W.grownBy wr (some BZ) →
      Q0 (.exit 2) ⟨#[u0, u1, u2, u3, u4, u5, u6, .pointer (some ⟨BZ, 0, none⟩), u8, u9, u10, .pointer (some ⟨BW, 0, none⟩), t12, t13, u14, u15, u16, u17, u18, u19, u20, u21, u22, u23, u24, u25, u26, u27, u28, u29, u30, u31, u32, u33, u34, u35, u36, u37, u38, u39, u40, u41, u42, u43, u44, u45, u46, u47, u48, u49, u50, u51, u52, u53, u54, u55, u56, u57, u58, u59, u60, u61, u62, u63, u64, u65, u66, u67, u68, u69, u70, u71, u72, u73, u74, u75, u76, u77, u78, u79, u80, u81, u82, u83, u84, u85, u86, u87, u88, .slice ca n cc, .int .i64 n, .int .i64 n, t92, t93, t94, t95, t96, t97, t98, t99, t100, t101, t102, t103, t104, t105, u106, u107, u108, u109, u110, u111, u112, u113, u114, u115, u116, u117, u118, u119, u120, u121, u122, u123, u124, u125, u126, u127, u128, u129, u130, u131, u132, u133, u134, u135, u136, u137], []⟩ wr) :
    Code.wp Try.prog (Code.loop leafLoop1) Q0 ⟨#[u0, u1, u2, u3, u4, u5, u6, .pointer (some ⟨BZ, 0, none⟩), u8, u9, u10, .pointer (some ⟨BW, 0, none⟩), u12, u13, u14, u15, u16, u17, u18, u19, u20, u21, u22, u23, u24, u25, u26, u27, u28, u29, u30, u31, u32, u33, u34, u35, u36, u37, u38, u39, u40, u41, u42, u43, u44, u45, u46, u47, u48, u49, u50, u51, u52, u53, u54, u55, u56, u57, u58, u59, u60, u61, u62, u63, u64, u65, u66, u67, u68, u69, u70, u71, u72, u73, u74, u75, u76, u77, u78, u79, u80, u81, u82, u83, u84, u85, u86, u87, u88, .slice ca n cc, .int .i64 n, .int .i64 0, u92, u93, u94, u95, u96, u97, u98, u99, u100, u101, u102, u103, u104, u105, u106, u107, u108, u109, u110, u111, u112, u113, u114, u115, u116, u117, u118, u119, u120, u121, u122, u123, u124, u125, u126, u127, u128, u129, u130, u131, u132, u133, u134, u135, u136, u137], []⟩ W := by
  obtain ⟨a', n', e', -, -, hcc⟩ := hc
  injection e' with e1 e2 e3
  subst e1
  rw [hrl] at hcc
  clear e2 e3
  have HCC := hide hcc
  have HSB := hide hsb
  have HP := hide hp
  have HR := hide hr
  have HRL := hide hrl
  have HCZ := hide hcz
  have HSS := hide (fun j (hj : j < n) => sumsP_set (rows := rows) (ws := ws) (i := k) hj)
  have HSF := hide (sumsP_full rows ws n k)
  clear hcc hsb hp hr hcz hrl
  conv => arg 2; arg 1; whnf
  dsimp only
  go_loopw [91] (fun i wr => ∃ j : Nat, j ≤ n ∧ i = .int .i64 j ∧ Blk wr BZ (decL (sumsP rows ws n k j)) 104 ∧ W.grownBy wr (some BZ)) (fun i _ => n - (intOf i).toNat)
  case atStart => exact ⟨0, by omega, rfl, hbz, Grown.refl _ _⟩
  case round =>
    obtain ⟨j, hj, rfl, bZ, hG⟩ := hrel
    by_cases hlt : j < n
    · obtain ⟨cb, co, rfl, hcj⟩ := HCC.out j hlt
      have hnz := HCZ.out j hlt cb co rfl
      have hcj' := (Grown.at hG hcj (by simpa using hnz))
      have hZ0 := bZ.cell j (decL_at _ (by omega))
      have hFz := bZ.frozen j
      have bW1 : Blk wr BW _ _ := (hG.block BW hbw.lt (by simpa using hne.symm)).trans hbw
      have w1 := bW1.cell 1 rfl
      have HSj := hide (HSS.out j hlt)
      have hcb := coefs_getD hrc j
      have hsj : -8000000000000 ≤ (sumsP rows ws n k j).getD j 0 ∧ (sumsP rows ws n k j).getD j 0 ≤ 8000000000000 := by
        rw [sumsP_get (by omega), if_pos hlt, if_neg (by omega)]; exact HSB.out _ _ (by omega)
      rw [HP.out] at HSj
      dsimp only at HSj
      rw [HR.out] at HSj
      have hm := mul_bd ht hcb (by omega)
      have hlb := bZ.lt
      clear HSS HSB HCC hcj hbz hbw hrc HP HR
      generalize (sumsP rows ws n k j).getD j 0 = S at *
      generalize r.coef.getD j 0 = c at *
      have e1 : IntKind.i64.wrap (t * c) = t * c := IntWalk.i64_in _ ⟨by omega, by omega⟩
      have e2 : IntKind.i64.wrap (S + t * c) = S + t * c := IntWalk.i64_in _ ⟨by omega, by omega⟩
      have hj12 : decide ((j : Int) < 12) = true := decide_eq_true (by omega)
      have hj0 : decide (0 ≤ (j : Int)) = true := decide_eq_true (by omega)
      go_wp2_with fail
      go_region
      have bZ2 := bZ.set j (.int .i64 (S + t * c))
      rw [decL_set (sumsP_len rows ws n k j) (by omega), HSj.out] at bZ2
      have hG2 : W.grownBy (World.drew (wr.setCell ⟨BZ, j, none⟩ (.int .i64 (S + t * c)))) (some BZ) := Grown.set1 hG j _
      go_wp2
      go_roundw
      case rel => exact ⟨j + 1, by omega, by go_num, bZ2, hG2⟩
      case measure => simp [intOf]; omega
    · obtain rfl : j = n := by omega
      go_wp2
      exact hexit _ _ _ _ _ _ _ _ _ _ _ _ _ _ _ _ _ (by rw [← HSF.out]; exact bZ) hG
theorem run_index12 (x0 x1 x2 x3 x4 x5 x6 x7 x8 x9 x10 x11 : Int) : ∀ (k : Nat) (v : Value) (w : World), k < 12 → ([.int .i64 x0, .int .i64 x1, .int .i64 x2, .int .i64 x3, .int .i64 x4, .int .i64 x5, .int .i64 x6, .int .i64 x7, .int .i64 x8, .int .i64 x9, .int .i64 x10, .int .i64 x11] : List Value)[k]? = some v →
    (Instr.index 104 (.agg #[.int .i64 x0, .int .i64 x1, .int .i64 x2, .int .i64 x3, .int .i64 x4, .int .i64 x5, .int .i64 x6, .int .i64 x7, .int .i64 x8, .int .i64 x9, .int .i64 x10, .int .i64 x11]) (.int .i64 (k : Nat))).run Try.prog w = .ok v w
  | 0, _, _, _, h => by cases h; kernel_rfl
  | 1, _, _, _, h => by cases h; kernel_rfl
  | 2, _, _, _, h => by cases h; kernel_rfl
  | 3, _, _, _, h => by cases h; kernel_rfl
  | 4, _, _, _, h => by cases h; kernel_rfl
  | 5, _, _, _, h => by cases h; kernel_rfl
  | 6, _, _, _, h => by cases h; kernel_rfl
  | 7, _, _, _, h => by cases h; kernel_rfl
  | 8, _, _, _, h => by cases h; kernel_rfl
  | 9, _, _, _, h => by cases h; kernel_rfl
  | 10, _, _, _, h => by cases h; kernel_rfl
  | 11, _, _, _, h => by cases h; kernel_rfl
  | k + 12, _, _, h, _ => absurd h (by omega)
set_option maxRecDepth 100000 in
set_option maxHeartbeats 2000000 in
theorem leaf_sum (D S : List Int) (d0 d1 d2 d3 d4 d5 d6 d7 d8 d9 d10 d11 s0 s1 s2 s3 s4 s5 s6 s7 s8 s9 s10 s11 : Int) (hD : ∀ k, k < 12 → ([.int .i64 d0, .int .i64 d1, .int .i64 d2, .int .i64 d3, .int .i64 d4, .int .i64 d5, .int .i64 d6, .int .i64 d7, .int .i64 d8, .int .i64 d9, .int .i64 d10, .int .i64 d11] : List Value)[k]? = some (.int .i64 (D.getD k 0))) (hS : ∀ k, k < 12 → ([.int .i64 s0, .int .i64 s1, .int .i64 s2, .int .i64 s3, .int .i64 s4, .int .i64 s5, .int .i64 s6, .int .i64 s7, .int .i64 s8, .int .i64 s9, .int .i64 s10, .int .i64 s11] : List Value)[k]? = some (.int .i64 (S.getD k 0)))
    (hbd : ∀ k, k ≤ 12 → -100000000000000 ≤ addP D S k ∧ addP D S k ≤ 100000000000000) (BD : Nat) (W : World) (hB : Blk W BD [.int .i64 d0, .int .i64 d1, .int .i64 d2, .int .i64 d3, .int .i64 d4, .int .i64 d5, .int .i64 d6, .int .i64 d7, .int .i64 d8, .int .i64 d9, .int .i64 d10, .int .i64 d11] 105) (Q0 : Exit → Act → World → Prop) (u0 u1 u2 u3 u4 u6 u7 u8 u9 u10 u11 u12 u13 u15 u16 u17 u18 u19 u20 u21 u22 u23 u24 u25 u26 u27 u28 u29 u30 u31 u32 u33 u34 u35 u36 u37 u38 u39 u40 u41 u42 u43 u44 u45 u46 u47 u48 u49 u50 u51 u52 u53 u54 u55 u56 u57 u58 u59 u60 u61 u62 u63 u64 u65 u66 u67 u68 u69 u70 u71 u72 u73 u74 u75 u76 u77 u78 u79 u80 u81 u82 u83 u84 u85 u86 u87 u88 u89 u90 u91 u92 u93 u94 u95 u96 u97 u98 u99 u100 u101 u102 u103 u104 u105 u106 u107 u108 u109 u110 u111 u112 u115 u116 u117 u118 u119 u120 u121 u122 u123 u124 u125 u126 u127 u128 u129 u130 u131 u132 u133 u134 u135 u136 u137 : Value)
    (hexit : ∀ (t15 t16 : Value) (t115 t116 t117 t118 t119 t120 t121 t122 t123 t124 t125 t126 t127 t128 t129 t130 t131 t132 : Value), Q0 (.exit 4) ⟨#[u0, u1, u2, u3, u4, .pointer (some ⟨BD, 0, none⟩), u6, u7, u8, u9, u10, u11, u12, u13, .int .i64 (addP D S 12), t15, t16, u17, u18, u19, u20, u21, u22, u23, u24, u25, u26, u27, u28, u29, u30, u31, u32, u33, u34, u35, u36, u37, u38, u39, u40, u41, u42, u43, u44, u45, u46, u47, u48, u49, u50, u51, u52, u53, u54, u55, u56, u57, u58, u59, u60, u61, u62, u63, u64, u65, u66, u67, u68, u69, u70, u71, u72, u73, u74, u75, u76, u77, u78, u79, u80, u81, u82, u83, u84, u85, u86, u87, u88, u89, u90, u91, u92, u93, u94, u95, u96, u97, u98, u99, u100, u101, u102, u103, u104, u105, u106, u107, u108, u109, u110, u111, u112, .agg #[.int .i64 s0, .int .i64 s1, .int .i64 s2, .int .i64 s3, .int .i64 s4, .int .i64 s5, .int .i64 s6, .int .i64 s7, .int .i64 s8, .int .i64 s9, .int .i64 s10, .int .i64 s11], .int .i64 12, t115, t116, t117, t118, t119, t120, t121, t122, t123, t124, t125, t126, t127, t128, t129, t130, t131, t132, u133, u134, u135, u136, u137], []⟩ W) :
    Code.wp Try.prog (Code.loop leafLoop2) Q0 ⟨#[u0, u1, u2, u3, u4, .pointer (some ⟨BD, 0, none⟩), u6, u7, u8, u9, u10, u11, u12, u13, .int .i64 0, u15, u16, u17, u18, u19, u20, u21, u22, u23, u24, u25, u26, u27, u28, u29, u30, u31, u32, u33, u34, u35, u36, u37, u38, u39, u40, u41, u42, u43, u44, u45, u46, u47, u48, u49, u50, u51, u52, u53, u54, u55, u56, u57, u58, u59, u60, u61, u62, u63, u64, u65, u66, u67, u68, u69, u70, u71, u72, u73, u74, u75, u76, u77, u78, u79, u80, u81, u82, u83, u84, u85, u86, u87, u88, u89, u90, u91, u92, u93, u94, u95, u96, u97, u98, u99, u100, u101, u102, u103, u104, u105, u106, u107, u108, u109, u110, u111, u112, .agg #[.int .i64 s0, .int .i64 s1, .int .i64 s2, .int .i64 s3, .int .i64 s4, .int .i64 s5, .int .i64 s6, .int .i64 s7, .int .i64 s8, .int .i64 s9, .int .i64 s10, .int .i64 s11], .int .i64 0, u115, u116, u117, u118, u119, u120, u121, u122, u123, u124, u125, u126, u127, u128, u129, u130, u131, u132, u133, u134, u135, u136, u137], []⟩ W := by
  have HD := hide hD
  have HS := hide hS
  have HB := hide hbd
  clear hD hS hbd
  conv => arg 2; arg 1; whnf
  dsimp only
  go_loopw [14, 114] (fun s i wr => ∃ j : Nat, j ≤ 12 ∧ i = .int .i64 j ∧ s = .int .i64 (addP D S j) ∧ W = wr) (fun _ i _ => 12 - (intOf i).toNat)
  case atStart => exact ⟨0, by omega, rfl, rfl, rfl⟩
  case round =>
    obtain ⟨j, hj, rfl, rfl, rfl⟩ := hrel
    by_cases hlt : j < 12
    · have hx := run_index12 s0 s1 s2 s3 s4 s5 s6 s7 s8 s9 s10 s11 j _ W hlt (HS.out j hlt)
      have c5 := hB.cell j (HD.out j hlt)
      have b0 := HB.out j (by omega)
      have b1 := HB.out (j + 1) (by omega)
      have HA : Hid (addP D S (j + 1) = addP D S j + (if D.getD j 0 = 1 then S.getD j 0 else if D.getD j 0 = 0 then (if S.getD j 0 < 0 then S.getD j 0 else 0) else 0)) := hide rfl
      clear hB HD HS HB
      rw [HA.out] at b1
      generalize hP1 : addP D S (j + 1) = P1 at HA
      have HP1 := hide hP1
      clear hP1
      generalize addP D S j = P0 at *
      generalize D.getD j 0 = d at *
      generalize S.getD j 0 = s at *
      have hj12 : decide ((j : Int) < 12) = true := decide_eq_true (by omega)
      by_cases hd1 : d = 1
      · subst hd1
        rw [if_pos rfl] at b1 HA
        have e1 : IntKind.i64.wrap (P0 + s) = P0 + s := IntWalk.i64_in _ ⟨by omega, by omega⟩
        go_wp2
        exact ⟨⟨j + 1, by omega, by go_num, by rw [HP1.out, HA.out] <;> simp, trivial⟩, by simp [intOf]; omega⟩
      · rw [if_neg hd1] at b1 HA
        have q1 : (d == 1) = false := by simpa using hd1
        by_cases hd0 : d = 0
        · subst hd0
          rw [if_pos rfl] at b1 HA
          by_cases hs0 : s < 0
          · rw [if_pos hs0] at b1 HA
            have e1 : IntKind.i64.wrap (P0 + s) = P0 + s := IntWalk.i64_in _ ⟨by omega, by omega⟩
            clear hd1
            go_wp2
            exact ⟨⟨j + 1, by omega, by go_num, by rw [HP1.out, HA.out] <;> simp, trivial⟩, by simp [intOf]; omega⟩
          · rw [if_neg hs0] at b1 HA
            have e1 : IntKind.i64.wrap (P0 + 0) = P0 + 0 := IntWalk.i64_in _ ⟨by omega, by omega⟩
            clear hd1
            go_wp2
            exact ⟨⟨j + 1, by omega, by go_num, by rw [HP1.out, HA.out] <;> simp, trivial⟩, by simp [intOf]; omega⟩
        · rw [if_neg hd0] at b1 HA
          have q0 : (d == 0) = false := by simpa using hd0
          clear hd0 hd1
          go_wp2
          exact ⟨⟨j + 1, by omega, by go_num, by rw [HP1.out, HA.out] <;> simp, trivial⟩, by simp [intOf]; omega⟩
    · obtain rfl : j = 12 := by omega
      go_wp2
      exact hexit _ _ _ _ _ _ _ _ _ _ _ _ _ _ _ _ _ _ _ _
end Go.Proofs.Ytppfdjjhloaopaa
