/- paired, round: a pair of an order; a list of things as a cycle of an order. Conditions: how the pairs and the list lie in memory. -/
import Derived.Test.YtnidcoinfmcffaaDoorOtG
namespace Go.Proofs.YtnidcoinfmcffaaDoor
open Go.RowKit
attribute [local go_sem] Oper.semAt_some
theorem ints_nat {W : World} {a : Option Addr} {n c : Nat} {l : List Nat} (h : IntsIn W.cell? (.slice a n c) (natsO l)) {k : Nat} (hk : k < l.length) : ∃ b o, a = some ⟨b, o, none⟩ ∧ W.cell? ⟨b, o + k, none⟩ = some (.int .i64 ((l.getD k 0 : Nat) : Int)) := by
  obtain ⟨a', m', e', -, -, hc⟩ := h
  obtain ⟨rfl, -, -⟩ := Value.slice.inj e'
  obtain ⟨b, o, e, h1⟩ := hc k (by unfold natsO; rw [List.length_map]; exact hk)
  rw [natsO_at] at h1
  exact ⟨b, o, e, h1⟩
theorem ints_nat2 {W : World} {b o n c : Nat} {l : List Nat} (h : IntsIn W.cell? (.slice (some ⟨b, o, none⟩) n c) (natsO l)) {k : Nat} (hk : k < l.length) : W.cell? ⟨b, o + k, none⟩ = some (.int .i64 ((l.getD k 0 : Nat) : Int)) := by
  obtain ⟨b', o', e, h1⟩ := ints_nat h hk
  cases e; exact h1
theorem ints_natf {c : Rd} {v : Value} {l : List Nat} (h : IntsIn c v (natsO l)) : ∃ a m, v = .slice a l.length m ∧ l.length ≤ m ∧ m ≤ 9223372036854775807 := by
  obtain ⟨a, m, e, h1, h2, -⟩ := h
  unfold natsO at e h1
  rw [List.length_map] at e h1
  exact ⟨a, m, e, h1, h2⟩
def hasP (l : List (Int × Int)) (x : Int × Int) : Bool := l.any fun p => decide (p = x)
theorem hasP_succ {l : List (Int × Int)} {k : Nat} (x : Int × Int) (hk : k < l.length) : hasP (l.take (k + 1)) x = (hasP (l.take k) x || decide (l.getD k (0, 0) = x)) := by
  unfold hasP
  rw [take_succ' l k (0, 0) hk, List.any_append, List.any_cons, List.any_nil, Bool.or_false]
theorem hasP_at {l : List (Int × Int)} {k : Nat} {x : Int × Int} (hk : k < l.length) (h : l.getD k (0, 0) = x) : hasP l x = true :=
  List.any_eq_true.2 ⟨_, getD_mem l k (d := (0, 0)) hk, by rw [h]; simp⟩
set_option maxRecDepth 20000 in
set_option maxHeartbeats 1000000 in
theorem paired_any (n : Int) (ps : List (Int × Int)) (v : Value) (a b : Int) (w : World) (hv : PairsIn w.cell? v ps) : Calls Tryd.prog 70 #[orderV n v, .int .i64 a, .int .i64 b] w (Ret (.bool (hasP ps (a, b))) w) := by
  obtain ⟨pa, pc, rfl, hl1, hl2, hc⟩ := hv
  have hm : (ps.length : Int) ≤ 9223372036854775807 := by omega
  have HC := hide hc
  obtain ⟨S, hS⟩ : ∃ S, hasP ps (a, b) = S := ⟨_, rfl⟩
  have HS := hide hS
  rw [hS]
  clear hc hl1 hl2 hS
  go_enter Tryd.func70, Tryd.ntmps70
  go_wp2_with fail
  generalize hX1 : World.alloc w _ = X1
  have zX1 : X1.heap.size = w.heap.size + 1 := by rw [← hX1]; simp
  have bX1 : Below w.heap.size w X1 := by rw [← hX1]; exact bal w _
  have bO : Blk X1 (w.heap.size) [.int .i64 n, .slice pa ps.length pc] 25 := by rw [← hX1]; exact Blk.newA w _ (by first | rfl | simp)
  have Xb := bX1
  have Xz := zX1
  clear hX1 zX1 bX1
  have c1 := bO.cell 1 rfl
  go_wp2_with fail
  go_loopw [7] (fun i wr => ∃ k : Nat, k ≤ ps.length ∧ i = .int .i64 k ∧ Hid (hasP (ps.take k) (a, b) = false) ∧ wr = X1) (fun i _ => ps.length - (intOf i).toNat)
  case atStart => exact ⟨0, by omega, rfl, hide rfl, rfl⟩
  case round =>
    obtain ⟨k, hk, rfl, HA, hwz⟩ := hrel
    subst hwz
    by_cases hlt : k < ps.length
    · have HK := hide hlt
      obtain ⟨b1, o1, e1, h1⟩ := HC.out k hlt
      subst e1
      have HSU := hide (hasP_succ (a, b) hlt)
      have HAT : Hid (ps.getD k (0, 0) = (a, b) → S = true) := hide (fun h => by rw [← HS.out]; exact hasP_at hlt h)
      generalize ps.getD k (0, 0) = x at h1 HSU HAT
      have hkl : decide (k < ps.length) = true := by simpa using hlt
      have p0 := keep Xb (h1 0 _ rfl)
      have p1 := keep Xb (h1 1 _ rfl)
      rw [Nat.add_zero] at p0
      clear h1
      by_cases hxy : x = (a, b)
      · subst hxy
        have hq := eq_yes (a, b)
        dsimp only at hq p0 p1
        have HT := hide (HAT.out rfl)
        go_wp2_with fail
        go_ret
        exact ⟨by rw [HT.out]; rfl, Xb⟩
      · have hq := eq_no hxy
        dsimp only at hq
        have HN : Hid (hasP (ps.take (k + 1)) (a, b) = false) := hide (by rw [HSU.out, HA.out, Bool.false_or, decide_eq_false hxy])
        clear hxy
        go_wp2_with fail
        go_roundw
        case rel => exact ⟨k + 1, by have := HK.out; omega, by go_num, HN, by trivial⟩
        case measure => have := HK.out; simp [intOf]; omega
    · obtain rfl : k = ps.length := by omega
      have HF : Hid (S = false) := hide (by rw [← HS.out]; have h := HA.out; rw [List.take_length] at h; exact h)
      go_wp2_with fail
      go_ret
      exact ⟨by rw [HF.out]; rfl, Xb⟩
def roundB (A : RelO) (l : List Nat) : Bool := (List.range l.length).all (fun i => A (l.getD i 0) (l.getD ((i + 1) % l.length) 0)) && decide (2 ≤ l.length)
theorem round_iff {A : RelO} {l : List Nat} : roundB A l = true ↔ RoundO A l := by
  unfold roundB RoundO
  rw [Bool.and_eq_true, List.all_eq_true, decide_eq_true_eq]
  exact ⟨fun h => ⟨h.2, fun i hi => h.1 i (List.mem_range.2 hi)⟩, fun h => ⟨fun i hi => h.2 i (List.mem_range.1 hi), h.1⟩⟩
set_option maxRecDepth 20000 in
set_option maxHeartbeats 1000000 in
theorem round_any (n : Int) (ps : List (Int × Int)) (v : Value) (l : List Nat) (lv : Value) (w : World) (hv : PairsIn w.cell? v ps) (hl : IntsIn w.cell? lv (natsO l)) : Calls Tryd.prog 35 #[orderV n v, lv] w (Ret (.bool (roundB (relP ps) l)) w) := by
  obtain ⟨pa, pc, rfl, -, -, -⟩ := id hv
  obtain ⟨la, lc, rfl, hl1, hl2⟩ := ints_natf hl
  have hm : (l.length : Int) ≤ 9223372036854775807 := by omega
  have HV := hide hv
  have HL := hide hl
  have HPA := hide (fun (a b : Nat) W (hW : Below w.heap.size w W) => (show Calls Tryd.prog 70 #[orderV n (.slice pa ps.length pc), .int .i64 (a : Int), .int .i64 (b : Int)] W (Ret (.bool (relP ps a b)) W) from paired_any n ps _ a b W (RecIn.below hW hv)))
  have HNO : Hid (∀ k, k < l.length → relP ps (l.getD k 0) (l.getD ((k + 1) % l.length) 0) = false → roundB (relP ps) l = false) := hide (fun k hk h => by
    cases e : roundB (relP ps) l
    · rfl
    · have := (round_iff.1 e).2 k hk
      rw [h] at this; cases this)
  have HYES : Hid ((∀ j, j < l.length → relP ps (l.getD j 0) (l.getD ((j + 1) % l.length) 0) = true) → roundB (relP ps) l = decide (2 ≤ l.length)) := hide (fun h => by
    unfold roundB
    rw [List.all_eq_true.2 (fun i hi => h i (List.mem_range.1 hi)), Bool.true_and])
  generalize roundB (relP ps) l = RB at *
  generalize relP ps = A at *
  clear hv hl hl1 hl2
  go_enter Tryd.func35, Tryd.ntmps35
  go_wp2_with fail
  generalize hX1 : World.alloc w _ = X1
  have zX1 : X1.heap.size = w.heap.size + 1 := by rw [← hX1]; simp
  have bX1 : Below w.heap.size w X1 := by rw [← hX1]; exact bal w _
  have bO : Blk X1 (w.heap.size) [.int .i64 n, .slice pa ps.length pc] 25 := by rw [← hX1]; exact Blk.newA w _ (by first | rfl | simp)
  have Xb := bX1
  have Xz := zX1
  clear hX1 zX1 bX1
  have HX := hide Xb
  have HO := hide bO
  clear Xb Xz bO
  go_wp2_with fail
  go_loopw [5] (fun i wr => ∃ k : Nat, k ≤ l.length ∧ i = .int .i64 k ∧ Hid (∀ j, j < k → A (l.getD j 0) (l.getD ((j + 1) % l.length) 0) = true) ∧ Below X1.heap.size X1 wr) (fun i _ => l.length - (intOf i).toNat)
  case atStart => exact ⟨0, by omega, rfl, hide (fun j hj => by omega), Below.refl _ _⟩
  case round =>
    obtain ⟨k, hk, rfl, HA, hbr⟩ := hrel
    have HBR := hide hbr
    clear hbr
    by_cases hlt : k < l.length
    · have hltI : (k : Int) < l.length := by omega
      have HK := hide hlt
      have hb := below2 HX.out HBR.out
      have hjl : (k + 1) % l.length < l.length := Nat.mod_lt _ (by omega)
      obtain ⟨lb, lo, rfl, q1⟩ := ints_nat (ints_bel HL.out hb) hlt
      have q2 := ints_nat2 (ints_bel HL.out hb) hjl
      have c0 := (HO.out.later HBR.out).cell 0 rfl
      have c1 := (HO.out.later HBR.out).cell 1 rfl
      have HN := hide (HNO.out k hlt)
      have HSU : Hid (A (l.getD k 0) (l.getD ((k + 1) % l.length) 0) = true → ∀ j, j < k + 1 → A (l.getD j 0) (l.getD ((j + 1) % l.length) 0) = true) := hide (fun h j hj => by
        rcases Nat.lt_succ_iff_lt_or_eq.1 hj with h1 | rfl
        · exact HA.out j h1
        · exact h)
      have hz : ¬ l.length = 0 := by omega
      have hzI : ¬ (l.length : Int) = 0 := by omega
      have hzB : ((l.length : Int) == 0) = false := beq_eq_false_iff_ne.2 hzI
      have hw1 : IntKind.i64.wrap ((k : Int) + 1) = (k : Int) + 1 := IntWalk.i64_in _ ⟨by omega, by omega⟩
      have hmd : ((k : Int) + 1) % (l.length : Int) = (((k + 1) % l.length : Nat) : Int) := by rw [Int.natCast_emod]; rfl
      have htm : ((k : Int) + 1).tmod (l.length : Int) = (((k + 1) % l.length : Nat) : Int) := by rw [Int.tmod_eq_emod_of_nonneg (a := (k : Int) + 1) (by omega)]; exact hmd
      obtain ⟨x, hx⟩ : ∃ x, l.getD k 0 = x := ⟨_, rfl⟩
      obtain ⟨y, hy⟩ : ∃ y, l.getD ((k + 1) % l.length) 0 = y := ⟨_, rfl⟩
      rw [hx, hy] at HN HSU
      rw [hx] at q1
      rw [hy] at q2
      have HC := hide (fun W hW => HPA.out x y W hW)
      generalize (k + 1) % l.length = j at *
      have hw2 : IntKind.i64.wrap (j : Int) = (j : Int) := IntWalk.i64_in _ ⟨by omega, by omega⟩
      have hjI : (j : Int) < l.length := by omega
      clear hx hy hb
      go_upto_region 4 with (fail)
      refine wp_region_still_tail 13 (by kernel_rfl) (by kernel_rfl) ?_
      simp only [List.take_succ_cons, List.take_zero, List.drop_succ_cons, List.drop_zero]
      repeat (with_reducible refine wpStill_step (fun K hK => ?_) ; go_simp ; with_reducible refine hK _ ?_ ; clear hK K)
      refine wpStill_nil ?_
      change wpList _ _ _ _ _ wr.drew
      have HBR2 := hide (HBR.out.drew)
      clear q1 q2 c0 c1 hmd htm hw2
      generalize World.drew wr = w8 at *
      cases hA : A x y
      · rw [hA] at HC
        have HF := hide (HN.out hA)
        clear hA
        go_wp2_with fail
        refine (HC.out _ (below2 HX.out HBR2.out)).mono ?_
        rintro e w9 ⟨rfl, hb9⟩
        have HBR3 := hide (below2 HBR2.out hb9)
        clear hb9
        go_wp2_with fail
        go_ret
        exact ⟨by rw [HF.out]; rfl, below2 HX.out HBR3.out⟩
      · rw [hA] at HC
        have HF := hide (HSU.out hA)
        clear hA
        go_wp2_with fail
        refine (HC.out _ (below2 HX.out HBR2.out)).mono ?_
        rintro e w9 ⟨rfl, hb9⟩
        have HBR3 := hide (below2 HBR2.out hb9)
        clear hb9
        go_wp2_with fail
        go_roundw
        case rel => exact ⟨k + 1, by have := HK.out; omega, by go_num, HF, HBR3.out⟩
        case measure => have := HK.out; simp [intOf]; omega
    · obtain rfl : k = l.length := by omega
      have HF := hide (HYES.out HA.out)
      have h2 : decide (2 ≤ l.length) = decide ((2 : Int) ≤ l.length) := by rw [decide_eq_decide]; omega
      rw [h2] at HF
      clear h2
      go_wp2_with fail
      go_ret
      exact ⟨by rw [HF.out]; rfl, below2 HX.out HBR.out⟩
end Go.Proofs.YtnidcoinfmcffaaDoor
