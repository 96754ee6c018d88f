/- The walk of Why (chapter 23): whether a thing holds; if it does, a list that is not empty. Conditions: how a valid theory lies in memory; the thing is a conclusion. -/
import Derived.Test.YtdjldidfnddpmaaGreatDoorJuI
import Derived.BigQuiet
namespace Go.Proofs.YtdjldidfnddpmaaGreatDoor
open Go.RowKit
theorem whyc_any (s d th i T B : Nat) (a : Option Addr) (c : Nat) (rs : List RuleD) (w : World) (hv : RulesIn w.cell? (.slice a rs.length c) rs) (hi : i < rs.length) (bT : Blk w T [.int .i64 s, .int .i64 d, .slice a rs.length c] 47) (bB : Blk w B [.int .i64 th] 3) :
    Calls Tryz.prog 35 #[.int .i64 i, .pointer (some ⟨T, 0, none⟩), .pointer (some ⟨B, 0, none⟩)] w (Ret (.bool (decide ((rs.getD i rule0).gives = th))) w) := by
  obtain ⟨ra', rn', re', -, -, hcr⟩ := id hv
  cases re'
  obtain ⟨b, o, nv, rfl, hcr2⟩ := hcr i hi
  obtain ⟨-, c1, -⟩ := hcr2
  have t2 := bT.cell 2 rfl
  have b0 := bB.cell 0 rfl
  have hrI : (rs.length : Int) ≤ 9223372036854775807 := by have := hv.choose_spec.choose_spec; omega
  have hiI : (i : Int) < rs.length := by omega
  obtain ⟨g, hg⟩ : ∃ g, (rs.getD i rule0).gives = g := ⟨_, rfl⟩
  rw [hg] at c1 ⊢
  clear hcr hv hg
  generalize rs.length = ln at *
  have t2' := bwc t2
  have b0' := bwc b0
  have c1' := bwc c1
  have HQ : Hid (((g : Int) == (th : Int)) = decide (g = th)) := hide (by rw [Bool.eq_iff_iff]; simp; omega)
  go_enter Tryz.func35, Tryz.ntmps35
  go_wp2_with fail
  refine wp_region_bw (by kernel_rfl) (by kernel_rfl) ?_
  repeat (go_big_quiet_step (fail))
  refine wpQuiet_nil ?_
  rintro w' ⟨i1, rfl⟩
  go_wp2
  go_ret
  exact ⟨ret_bool (by first | exact HQ.out | simp), i1.h⟩
theorem ints_take {c : Rd} {a : Option Addr} {m n k : Nat} {l : List Int} (h : IntsIn c (.slice a m n) l) (hk : k ≤ l.length) : IntsIn c (.slice a k n) (l.take k) := by
  obtain ⟨a', n', e, h1, h2, h3⟩ := h
  cases e
  have hl : (l.take k).length = k := by rw [List.length_take]; omega
  refine ⟨a, n, by rw [hl], by omega, h2, fun j hj => ?_⟩
  rw [hl] at hj
  obtain ⟨b, o, e, hc⟩ := h3 j (by omega)
  refine ⟨b, o, e, ?_⟩
  rw [List.getD_eq_getElem?_getD, List.getElem?_take_of_lt hj, ← List.getD_eq_getElem?_getD]; exact hc
theorem idx_in {q : Int → Bool} {l : List Int} (h : l.any q = true) : ∃ j : Nat, idxF q l = j ∧ j < l.length := by
  induction l with
  | nil => simp at h
  | cons x t ih =>
    by_cases hx : q x = true
    · exact ⟨0, by simp [idxF, hx], by simp⟩
    · obtain ⟨j, e, hj⟩ := ih (by simpa [hx] using h)
      exact ⟨j + 1, by simp [idxF, hx, e]; omega, by simp; omega⟩
theorem grown_belowJ {w0 w w' : World} {M : Nat} (hb : Below w0.heap.size w0 w) (hg : w.grownBy w' (some M)) (hM : w0.heap.size ≤ M) : Below w0.heap.size w0 w' :=
  ⟨hg.os.trans hb.os, hg.tape.trans hb.tape, hg.output.trans hb.output, Nat.le_trans hb.size hg.size, fun k hk => (hg.block k (Nat.lt_of_lt_of_le hk hb.size) (by simp; omega)).trans (hb.block k hk)⟩
theorem wrapk {k : Nat} (h : k ≤ 1000) : wrap64 ((k : Int) + 1) = (k : Int) + 1 ∧ wrap64 ((k : Int) - 1) = (k : Int) - 1 := ⟨wrap_id (by omega) (by omega), wrap_id (by omega) (by omega)⟩
theorem natsJ_erase (l : List Nat) (k : Nat) : (natsJ l).eraseIdx k = natsJ (l.eraseIdx k) := erase_map _ l k
theorem natsJ_take (l : List Nat) (k : Nat) : (natsJ l).take k = natsJ (l.take k) := by unfold natsJ; rw [List.map_take]
set_option maxRecDepth 100000 in
set_option maxHeartbeats 2000000 in
theorem why_any (s d S0 th : Nat) (v : Value) (rs : List RuleD) (w : World) (ht : OkT s d rs) (hv : RulesIn w.cell? v rs) (hS0 : S0 < 2 ^ s) (h1 : s ≤ th) (h2 : th < s + d) :
    Calls Tryz.prog 10 #[.agg #[.int .i64 s, .int .i64 d, v], .int .i64 S0, .int .i64 th] w
    (fun e w' => ∃ S l a n c, e = .returned (.tuple #[.slice a n c, .bool (S.testBit th)]) ∧ HeldP rs (s + d) S0 S l ∧ (S.testBit th = true → 0 < n) ∧ Below w.heap.size w w') := by
  have hS00 : S0 < 2 ^ (s + d) := Nat.lt_of_lt_of_le hS0 (Nat.pow_le_pow_right (by omega) (by omega))
  have hN32 : s + d ≤ 32 := by have := ht.s; have := ht.d; omega
  have HN : Hid (2 ^ (s + d) ≤ 2 ^ 32) := hide (Nat.pow_le_pow_right (by omega) hN32)
  have HS := hide (fun X (hX : Below w.heap.size w X) => jisSet_any s d S0 v rs X ht (hv.below hX) hS0)
  have HH := hide (fun X (hX : Below w.heap.size w X) => held_any s d S0 v rs X ht (hv.below hX) hS00)
  have HDV := hide (fun X lv (l : List Nat) (hX : Below w.heap.size w X) hl hi h0 h40 => derives_any s d S0 th v lv rs l X ht (hv.below hX) hl hi h0 h40 (Nat.lt_of_lt_of_le hS00 HN.out))
  have HLR : Hid (rs.length ≤ 40) := hide ht.len
  obtain ⟨a, c, rfl, -⟩ := id hv
  have HT : Hid (∀ W, Calls Tryz.prog 33 #[.agg #[.int .i64 s, .int .i64 d, .slice a rs.length c], .int .i64 th] W (Ret (.bool true) W)) := hide fun W => by
    have := isThing_any s d a rs.length c th W ht.s ht.d
    rwa [show inB (th : Int) 0 (((s + d : Nat) : Int) - 1) = true by unfold inB; rw [decide_eq_true_eq]; omega] at this
  have HV := hide hv
  have hmin : min th 64 = th := by omega
  have hlt : decide (th < s) = false := decide_eq_false (by omega)
  have hth0 : ¬ ((th : Int) < 0) := by omega
  have HNS : Hid (S0.testBit th = false) := hide (Nat.testBit_lt_two_pow (Nat.lt_of_lt_of_le hS0 (Nat.pow_le_pow_right (by omega) h1)))
  clear ht hv hS0 hS00 h1 h2 hN32 hth0
  go_enter Tryz.func10, Tryz.ntmps10
  go_wp2_with fail
  generalize hX1 : World.alloc w _ = X1
  have zX1 : X1.heap.size = w.heap.size + 1 := by rw [← hX1]; simp
  have bX1 : Below w.heap.size w X1 := by rw [← hX1]; exact bal w _
  have bT_1 : Blk X1 (w.heap.size) [.int .i64 s, .int .i64 d, .slice a rs.length c] 47 := by rw [← hX1]; exact Blk.newA w _ (by first | rfl | simp)
  generalize hX2 : World.alloc X1 _ = X2
  have zX2 : X2.heap.size = w.heap.size + 1 + 1 := by rw [← hX2]; simp [zX1]
  have bX2 : Below X1.heap.size X1 X2 := by rw [← hX2]; exact bal X1 _
  have bB : Blk X2 (w.heap.size + 1) [.int .i64 th] 3 := by rw [← hX2, ← zX1]; exact Blk.newA X1 _ (by first | rfl | simp)
  have bT := bT_1.later bX2
  have Xb := below2 (bX1) bX2
  have Xz := zX2
  clear hX1 zX1 bX1 hX2 zX2 bX2 bT_1
  have t0 := bT.cell 0 rfl
  have t1 := bT.cell 1 rfl
  have t2 := bT.cell 2 rfl
  go_wp2_with fail
  refine (HS.out _ Xb).mono ?_
  rintro e w1 ⟨rfl, hw1⟩
  have hb1 := below2 Xb hw1
  have t0 := (bT.later hw1).cell 0 rfl
  have t1 := (bT.later hw1).cell 1 rfl
  have t2 := (bT.later hw1).cell 2 rfl
  have b0 := (bB.later hw1).cell 0 rfl
  go_wp2_with fail
  refine (HT.out _).mono ?_
  rintro e w2 ⟨rfl, hw2⟩
  have hb2 := below2 hb1 hw2
  have hX2 := below2 hw1 hw2
  have t0 := (bT.later hX2).cell 0 rfl
  have t1 := (bT.later hX2).cell 1 rfl
  have t2 := (bT.later hX2).cell 2 rfl
  go_wp2_with fail
  refine (HH.out _ hb2).mono ?_
  rintro e w3 ⟨S, l, lv, rfl, hH, hown, hw3⟩
  have hb3 := below2 hb2 hw3
  have hX3 := below2 hX2 hw3
  have b0 := (bB.later hX3).cell 0 rfl
  have t0 := (bT.later hX3).cell 0 rfl
  have t1 := (bT.later hX3).cell 1 rfl
  have t2 := (bT.later hX3).cell 2 rfl
  have hbt := bit32 (k := th) (Nat.lt_of_lt_of_le hH.i.bd HN.out)
  have HHP := hide hH
  clear hH
  cases hb : S.testBit th
  · rw [hb] at hbt
    have HB := hide hb
    clear hb
    go_wp2_with fail
    go_ret2
    exact ⟨S, l, none, 0, 0, by rw [HB.out]; rfl, HHP.out, (fun h => by rw [HB.out] at h; cases h), hb3⟩
  rw [hb] at hbt
  have HB := hide hb
  clear hb
  obtain ⟨la, lc, rfl⟩ := hown.form
  have hll := natsJ_len l
  have hl40 : l.length ≤ 40 := by have := HHP.out.i.len; have := HLR.out; omega
  have hq : (natsJ l).any (fun x => decide ((rs.getD x.toNat rule0).gives = th)) = true := by
    rcases HHP.out.i.by_ th HB.out with h | ⟨i, hi, e⟩
    · rw [HNS.out] at h; cases h
    · exact List.any_eq_true.2 ⟨(i : Int), List.mem_map.2 ⟨i, hi, rfl⟩, by simpa using e⟩
  obtain ⟨j, hj, hjl⟩ := idx_in hq
  rw [hll] at hjl
  have HLI := hide hown.ints
  have HLO := hide HHP.out.i.low
  have HIX := hide (idx_ints (fun W => Below w3.heap.size w3 W) 35 #[.pointer (some ⟨w.heap.size, 0, none⟩), .pointer (some ⟨w.heap.size + 1, 0, none⟩)] (Go.Proofs.enters_of Tryz.func35 (by kernel_rfl) rfl) (fun x => decide ((rs.getD x.toNat rule0).gives = th)) (natsJ l) _ w3 (fun W hI => IntsAt.below hI hown.ints) (Below.refl _ w3) (fun W hI x hx => by
    obtain ⟨i, hi, rfl⟩ := List.mem_map.1 hx
    exact (whyc_any s d th i _ _ a c rs W (HV.out.below (below2 hb3 hI)) (HLO.out i hi) ((bT.later hX3).later hI) ((bB.later hX3).later hI)).mono (fun e w' ⟨e1, e2⟩ => ⟨by rw [e1]; simp, below2 hI e2⟩)))
  rw [hj, hll] at HIX
  have HLT := hide (ints_take (k := j + 1) HLI.out (by rw [hll]; omega))
  rw [natsJ_take] at HLT
  have hlc : l.length ≤ lc := by
    obtain ⟨a', n', e, h1, -⟩ := HLI.out
    cases e; rw [hll] at h1; exact h1
  have hlcI : lc ≤ 9223372036854775807 := by
    obtain ⟨a', n', e, -, h1, -⟩ := HLI.out
    cases e; exact h1
  rw [hll]
  have ej : wrap64 ((j : Int) + 1) = ((j + 1 : Nat) : Int) := by rw [wrap_id (by omega) (by omega)]; omega
  have hj0 : (0 : Int) ≤ ((j + 1 : Nat) : Int) := by omega
  have hjc : ((j + 1 : Nat) : Int) ≤ (lc : Int) := by omega
  have hjcN : j + 1 ≤ lc := by omega
  have ej2 : wrap64 (((j + 1 : Nat) : Int) - 2) = ((j : Nat) : Int) - 1 := by rw [wrap_id (by omega) (by omega)]; omega
  have HJL := hide hjl
  clear hown hll hq hj hjl
  generalize hjj : j + 1 = m at *
  go_wp2_with fail
  refine HIX.out.mono ?_
  rintro e w4 ⟨rfl, hw4⟩
  have hb4 := below2 hb3 hw4
  have hX4 := below2 hX3 hw4
  have HLT4 := hide (IntsAt.below hw4 HLT.out)
  have hm1 : 1 ≤ m := by omega
  have HM := hide (And.intro hm1 (And.intro (show m ≤ l.length by have := HJL.out; omega) hl40))
  have HX4 := hide hX4
  have HB4 := hide hb4
  clear HIX hw4 HLT HLI hX4 hb4 hmin hbt hjj hm1 hl40
  go_wp2_with fail
  rw [ej]
  clear ej
  go_loopw [9, 11] (fun lv kv wr => ∃ (k : Nat) (l' : List Nat) (a' : Option Addr) (c' : Nat), kv = .int .i64 ((k : Int) - 1) ∧ lv = .slice a' l'.length c' ∧ k + 1 ≤ l'.length ∧ l'.length ≤ 40 ∧ Hid (∀ i ∈ l', i < rs.length) ∧ Hid (IntsIn wr.cell? lv (natsJ l')) ∧ Below w4.heap.size w4 wr) (fun _ kv _ => (intOf kv + 1).toNat)
  case atStart =>
    have hl2 : (l.take m).length = m := by have := HM.out; rw [List.length_take]; omega
    exact ⟨m - 1, l.take m, la, lc, i64_eq (by have := HM.out; omega), by rw [hl2], by have := HM.out; omega, by have := HM.out; omega, hide (fun i hi => HLO.out i (List.mem_of_mem_take hi)), HLT4, Below.refl _ _⟩
  case round =>
    obtain ⟨k, l', a', c', rfl, rfl, hk, h40, HLO', HLI', hbr⟩ := hrel
    cases k with
    | zero =>
      have hz : decide ((0 : Int) ≤ ((0 : Nat) : Int) - 1) = false := by decide
      have HP := hide hk
      go_wp2_with fail
      go_ret2
      exact ⟨S, l, _, _, _, by rw [HB.out]; rfl, HHP.out, (fun _ => by have := HP.out; omega), below2 HB4.out hbr⟩
    | succ k =>
      have hk0 : ((k + 1 : Nat) : Int) - 1 = k := by omega
      rw [hk0]
      have HCL := hide (clonej_any (natsJ l') _ wr (ints_nums HLI'.out) (by rw [natsJ_len]; omega))
      have HK := hide (And.intro hk h40)
      have HBR := hide hbr
      obtain ⟨ek, ek2⟩ := wrapk (show k ≤ 1000 by omega)
      have t0 := (bT.later (below2 HX4.out hbr)).cell 0 rfl
      clear hk h40 hbr hk0
      go_wp2_with fail
      refine HCL.out.mono ?_
      rintro e w5 ⟨lv5, rfl, hown5, hw5⟩
      obtain ⟨hk, h40⟩ := HK.out
      obtain ⟨g, cc, rfl, hgB⟩ : ∃ g cc, lv5 = .slice (some ⟨g, 0, none⟩) l'.length cc ∧ wr.heap.size ≤ g := by
        rcases hown5.form with ⟨-, h2⟩ | ⟨g, c', cur, rfl, h3, -⟩
        · have := congrArg List.length h2; rw [List.length_map, natsJ_len] at this; simp at this; rw [this] at hk; simp at hk
        · rw [List.length_map, natsJ_len]; exact ⟨_, _, rfl, h3⟩
      have HDL := hide (deletej_any (natsJ l') g l'.length cc _ k w5 hown5 (by rw [natsJ_len]; omega) (by rw [natsJ_len]; omega))
      rw [natsJ_erase] at HDL
      have HEL : Hid ((l'.eraseIdx k).length = l'.length - 1) := hide (List.length_eraseIdx_of_lt (by omega))
      have HGB := hide hgB
      clear hown5 hgB hk h40 HCL
      go_wp2_with fail
      refine HDL.out.mono ?_
      rintro e w6 ⟨rfl, hown6, hg6⟩
      have hw6 : Below wr.heap.size wr w6 := grown_belowJ hw5 hg6 HGB.out
      have hw46 := below2 HBR.out hw6
      have HI6 := hide (nums_ints (RecIn.of_own hown6 intC_len (Nat.le_refl _)).at)
      rw [natsJ_len] at HI6 ⊢
      have HLO6 : Hid (∀ i ∈ l'.eraseIdx k, i < rs.length) := hide fun i hi => HLO'.out i (List.mem_of_mem_eraseIdx hi)
      have HDD := hide (HDV.out w6 _ (l'.eraseIdx k) (below2 HB4.out hw46) HI6.out HLO6.out (by have := HK.out; have := HEL.out; omega) (by have := HK.out; have := HEL.out; omega))
      have t0 := (bT.later (below2 HX4.out hw46)).cell 0 rfl
      have t1 := (bT.later (below2 HX4.out hw46)).cell 1 rfl
      have t2 := (bT.later (below2 HX4.out hw46)).cell 2 rfl
      have b0 := (bB.later (below2 HX4.out hw46)).cell 0 rfl
      have HW46 := hide hw46
      have HW6 := hide hw6
      clear hown6 hg6 hw6 hw46 hw5 HDL
      generalize hel : (l'.eraseIdx k).length = el at *
      go_wp2_with fail
      refine HDD.out.mono ?_
      rintro e w7 ⟨bb, rfl, hw7⟩
      have HB7 := hide (below2 HW46.out hw7)
      have HI7 := hide (IntsAt.below hw7 HI6.out)
      have HL7 := hide (IntsAt.below (below2 HW6.out hw7) HLI'.out)
      clear hw7
      cases bb
      · go_wp2_with fail
        go_roundw
        case rel => exact ⟨k, l', _, _, by first | go_num | (exact i64_eq (by omega)), rfl, by have := HK.out; omega, HK.out.2, HLO', HL7, HB7.out⟩
        case measure => simp [intOf, ek2]
      · go_wp2_with fail
        go_roundw
        case rel => exact ⟨k, l'.eraseIdx k, _, _, by first | go_num | (exact i64_eq (by omega)), by rw [hel], by have := HK.out; have := HEL.out; omega, by have := HK.out; have := HEL.out; omega, HLO6, HI7, HB7.out⟩
        case measure => simp [intOf, ek2]
end Go.Proofs.YtdjldidfnddpmaaGreatDoor
