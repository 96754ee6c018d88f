/- Walks of package justify: Valid, isSet, meets (chapter 23), for valid theories. Conditions: how the theory lies in memory. -/
import Derived.Test.YtdjldidfnddpmaaGreatDoorJuD
namespace Go.Proofs.YtdjldidfnddpmaaGreatDoor
open Go.RowKit
/-- a rule of a valid theory -/
def OkR (s d : Nat) (r : RuleD) : Prop := r.needs.length ≤ 6 ∧ r.needs.Pairwise (· < ·) ∧ (∀ m ∈ r.needs, m < s + d) ∧ s ≤ r.gives ∧ r.gives < s + d
theorem bad_none {s d : Nat} {r : RuleD} (h : OkR s d r) : ((List.range (natsJ r.needs).length).any fun k => decide ((natsJ r.needs).getD k 0 ≤ prevF (-1) (natsJ r.needs) k) || !inB ((natsJ r.needs).getD k 0) 0 (((s + d : Nat) : Int) - 1)) = false := by
  obtain ⟨-, h2, h3, -⟩ := h
  rw [List.any_eq_false]
  intro k hk
  rw [List.mem_range, natsJ_len] at hk
  have hm := h3 _ (getD_mem r.needs k (d := 0) hk)
  rw [natsJ_get hk]
  have hp : prevF (-1) (natsJ r.needs) k < ((r.needs.getD k 0 : Nat) : Int) := by
    unfold prevF
    by_cases e : k = 0
    · rw [if_pos e]; omega
    · rw [if_neg e, natsJ_get (by omega)]
      have := List.pairwise_iff_getElem.1 h2 (k - 1) k (by omega) hk (by omega)
      rw [List.getD_eq_getElem?_getD, List.getD_eq_getElem?_getD, List.getElem?_eq_getElem hk, List.getElem?_eq_getElem (by omega)]
      simp only [Option.getD_some]; omega
  simp only [inB, Bool.or_eq_true, decide_eq_true_eq, Bool.not_eq_true', decide_eq_false_iff_not]
  omega
set_option maxHeartbeats 1000000 in
theorem vrule_any (s d : Nat) (a : Option Addr) (m c : Nat) (r : RuleD) (nv : Value) (T : Nat) (w : World) (hs : s ≤ 12) (hd : d ≤ 20) (hr : OkR s d r) (hn : IntsIn w.cell? nv (natsJ r.needs)) (bt : Blk w T [.int .i64 s, .int .i64 d, .slice a m c] 47) :
    Calls Tryz.prog 79 #[.agg #[nv, .int .i64 r.gives], .pointer (some ⟨T, 0, none⟩)] w (Ret (.bool false) w) := by
  have HC : Hid (∀ X, Below w.heap.size w X → Blk X T [.int .i64 s, .int .i64 d, .slice a m c] 47 → Blk X (w.heap.size + 1) [.int .i64 (-1)] 3 → Calls Tryz.prog 61 #[nv, .func (.func 80) #[] #[.pointer (some ⟨w.heap.size + 1, 0, none⟩), .pointer (some ⟨T, 0, none⟩)]] X (RetI (fun W => Below (w.heap.size + 1) X W) (.bool false))) := hide fun X hX b1 b2 => by
    have hTL : T < w.heap.size + 1 := Nat.lt_succ_of_lt bt.lt
    have := has_intsK (BadJ X T (w.heap.size + 1) s d a m c (natsJ r.needs)) (fun W => Below (w.heap.size + 1) X W) (fun _ _ h => h.pt) 80 #[.pointer (some ⟨w.heap.size + 1, 0, none⟩), .pointer (some ⟨T, 0, none⟩)] (Go.Proofs.enters_of Tryz.func80 (by kernel_rfl) rfl) _ (natsJ r.needs) nv X (fun W hI => IntsAt.below (hX.trans (hI.mono (Nat.le_succ _))) hn) ⟨Below.refl _ _, b1, b2⟩ (fun k _ W' hJ => badc_any X T (w.heap.size + 1) s d a m c (natsJ r.needs) hs hd hTL k W' hJ)
    rw [bad_none hr] at this
    exact this
  have HT := hide (fun W => isThing_any s d a m c r.gives W hs hd)
  have e1 : inB (r.gives : Int) 0 (((s + d : Nat) : Int) - 1) = true := by
    have := hr.2.2.2; unfold inB; rw [decide_eq_true_eq]; omega
  rw [e1] at HT
  have h6 : decide (6 < r.needs.length) = false := decide_eq_false (by have := hr.1; omega)
  have h6' : decide ((6 : Int) < (r.needs.length : Int)) = false := decide_eq_false (by have := hr.1; omega)
  have h7 : decide (r.gives < s) = false := decide_eq_false (by have := hr.2.2.2; omega)
  obtain ⟨na, nc, rfl, -⟩ := id hn
  rw [natsJ_len] at HC ⊢
  generalize r.needs.length = ln at *
  generalize r.gives = g at *
  have HTB := hide bt
  clear hn hr bt hs hd e1
  go_enter Tryz.func79, Tryz.ntmps79
  go_wp2_with fail
  generalize hX1 : World.alloc w _ = X1
  have zX1 : X1.heap.size = w.heap.size + 1 := by rw [← hX1]; simp
  have bX1 : Below w.heap.size w X1 := by rw [← hX1]; exact bal w _
  have bR_1 : Blk X1 (w.heap.size) [.slice na ln nc, .int .i64 g] 51 := by rw [← hX1]; exact Blk.newA w _ (by first | rfl | simp)
  generalize hX2 : World.alloc X1 _ = X2
  have zX2 : X2.heap.size = w.heap.size + 1 + 1 := by rw [← hX2]; simp [zX1]
  have bX2 : Below X1.heap.size X1 X2 := by rw [← hX2]; exact bal X1 _
  have bL : Blk X2 (w.heap.size + 1) [.int .i64 (-1)] 3 := by rw [← hX2, ← zX1]; exact Blk.newA X1 _ (by first | rfl | simp)
  have bR := bR_1.later bX2
  have Xb := below2 (bX1) bX2
  have Xz := zX2
  clear hX1 zX1 bX1 hX2 zX2 bX2 bR_1
  have bT := HTB.out.later Xb
  have r0 := bR.cell 0 rfl
  go_wp2_with fail
  refine (HC.out _ Xb bT bL).mono ?_
  rintro e w1 ⟨rfl, hw1⟩
  have bR1 := bR.below hw1 (by omega)
  have bT1 := bT.below hw1 (Nat.lt_succ_of_lt HTB.out.lt)
  have X1b := Xb.trans (hw1.mono (Nat.le_succ _))
  have r1 := bR1.cell 1 rfl
  have t0 := bT1.cell 0 rfl
  have t1 := bT1.cell 1 rfl
  have t2 := bT1.cell 2 rfl
  clear r0
  go_wp2_with fail
  refine (HT.out _).mono ?_
  rintro e w2 ⟨rfl, hw2⟩
  go_wp2_with fail
  go_ret
  exact ⟨rfl, below2 X1b hw2⟩
set_option maxHeartbeats 1000000 in
theorem jvalid_any (s d : Nat) (v : Value) (rs : List RuleD) (w : World) (ht : OkT s d rs) (hv : RulesIn w.cell? v rs) : Calls Tryz.prog 55 #[.agg #[.int .i64 s, .int .i64 d, v]] w (Ret (.bool true) w) := by
  have hs := ht.s
  have hd := ht.d
  obtain ⟨a, c, rfl, hlc, hcm, -⟩ := id hv
  have HC : Hid (∀ X, Below w.heap.size w X → Blk X w.heap.size [.int .i64 s, .int .i64 d, .slice a rs.length c] 47 → Calls Tryz.prog 78 #[.slice a rs.length c, .func (.func 79) #[] #[.pointer (some ⟨w.heap.size, 0, none⟩)]] X (RetI (fun W => Below X.heap.size X W) (.bool false))) := hide fun X hX b1 => by
    have := has_rules (fun W => Below X.heap.size X W) 79 #[.pointer (some ⟨w.heap.size, 0, none⟩)] (Go.Proofs.enters_of Tryz.func79 (by kernel_rfl) rfl) (fun _ => false) rs (.slice a rs.length c) X (fun W hI => hv.below (below2 hX hI)) (Below.refl _ X) (fun W hI x hx nv hn =>
      (vrule_any s d a rs.length c x nv w.heap.size W hs hd (ht.rule x hx) hn (b1.later hI)).mono (fun e w' ⟨e1, e2⟩ => ⟨e1, below2 hI e2⟩))
    rwa [show rs.any (fun _ => false) = false by simp] at this
  have H1 : Hid (∀ W, Calls Tryz.prog 56 #[.int .i64 s, .int .i64 0, .int .i64 12] W fun e w' => e = .returned (.bool true) ∧ w' = W) := hide fun W => by
    have := jisIn_eq s 0 12 W
    rwa [show inB (s : Int) 0 12 = true by unfold inB; rw [decide_eq_true_eq]; omega] at this
  have H2 : Hid (∀ W, Calls Tryz.prog 56 #[.int .i64 d, .int .i64 0, .int .i64 20] W fun e w' => e = .returned (.bool true) ∧ w' = W) := hide fun W => by
    have := jisIn_eq d 0 20 W
    rwa [show inB (d : Int) 0 20 = true by unfold inB; rw [decide_eq_true_eq]; omega] at this
  have h6 : decide (40 < rs.length) = false := decide_eq_false (by have := ht.len; omega)
  have h6' : decide ((40 : Int) < (rs.length : Int)) = false := decide_eq_false (by have := ht.len; omega)
  clear hv ht hs hd hlc hcm
  generalize rs.length = ln at *
  go_enter Tryz.func55, Tryz.ntmps55
  go_wp2_with fail
  generalize hX1 : World.alloc w _ = X1
  have zX1 : X1.heap.size = w.heap.size + 1 := by rw [← hX1]; simp
  have bX1 : Below w.heap.size w X1 := by rw [← hX1]; exact bal w _
  have bT : Blk X1 (w.heap.size) [.int .i64 s, .int .i64 d, .slice a ln c] 47 := by rw [← hX1]; exact Blk.newA w _ (by first | rfl | simp)
  have Xb := bX1
  have Xz := zX1
  clear hX1 zX1 bX1
  have t0 := bT.cell 0 rfl
  have t1 := bT.cell 1 rfl
  have t2 := bT.cell 2 rfl
  go_wp2_with fail
  refine (H1.out _).mono ?_
  rintro e w' ⟨rfl, hw⟩; obtain rfl := hw.symm
  go_wp2_with fail
  refine (H2.out _).mono ?_
  rintro e w' ⟨rfl, hw⟩; obtain rfl := hw.symm
  go_wp2_with fail
  refine (HC.out _ Xb bT).mono ?_
  rintro e w2 ⟨rfl, hw2⟩
  go_wp2_with fail
  go_ret
  exact ⟨rfl, below2 Xb hw2⟩
theorem jisSet_any (s d S : Nat) (v : Value) (rs : List RuleD) (w : World) (ht : OkT s d rs) (hv : RulesIn w.cell? v rs) (hS : S < 2 ^ s) : Calls Tryz.prog 30 #[.agg #[.int .i64 s, .int .i64 d, v], .int .i64 S] w (Ret (.bool true) w) := by
  have HV := hide (fun X (hX : Below w.heap.size w X) => jvalid_any s d v rs X ht (hv.below hX))
  obtain ⟨T, hT⟩ : ∃ T, 2 ^ s = T := ⟨_, rfl⟩
  have hT2 : T ≤ 4096 := by rw [← hT]; exact Nat.pow_le_pow_right (n := 2) (by omega) ht.s
  have H1 : Hid (∀ W, Calls Tryz.prog 56 #[.int .i64 S, .int .i64 0, .int .i64 ((T : Int) - 1)] W fun e w' => e = .returned (.bool true) ∧ w' = W) := hide fun W => by
    have := jisIn_eq S 0 ((T : Int) - 1) W
    rwa [show inB (S : Int) 0 ((T : Int) - 1) = true by unfold inB; rw [decide_eq_true_eq]; omega] at this
  have e1 : wrap64 (2 ^ s) = (T : Int) := by
    have e : (2 : Int) ^ s = (T : Int) := by rw [← hT]; simp
    rw [e]; exact wrap_id (by omega) (by omega)
  have e3 : wrap64 ((T : Int) - 1) = (T : Int) - 1 := wrap_id (by omega) (by omega)
  have e4 : min s 64 = s := by have := ht.s; omega
  obtain ⟨a, c, rfl, -⟩ := id hv
  clear ht hv hS hT
  generalize rs.length = ln at *
  go_enter Tryz.func30, Tryz.ntmps30
  go_wp2_with fail
  generalize hX1 : World.alloc w _ = X1
  have zX1 : X1.heap.size = w.heap.size + 1 := by rw [← hX1]; simp
  have bX1 : Below w.heap.size w X1 := by rw [← hX1]; exact bal w _
  have bT : Blk X1 (w.heap.size) [.int .i64 s, .int .i64 d, .slice a ln c] 47 := by rw [← hX1]; exact Blk.newA w _ (by first | rfl | simp)
  have Xb := bX1
  have Xz := zX1
  clear hX1 zX1 bX1
  have t0 := bT.cell 0 rfl
  have t1 := bT.cell 1 rfl
  have t2 := bT.cell 2 rfl
  go_wp2_with fail
  refine (HV.out _ Xb).mono ?_
  rintro e w1 ⟨rfl, hw1⟩
  have t0 := (bT.later hw1).cell 0 rfl
  go_wp2_with fail
  refine (H1.out _).mono ?_
  rintro e w' ⟨rfl, hw⟩; obtain rfl := hw.symm
  go_wp2_with fail
  go_ret
  exact ⟨rfl, below2 Xb hw1⟩
/-- the function value of meets -/
theorem meetc_any (S n B : Nat) (w : World) (hS : S < 2 ^ 32) (hn : n < 32) (bS : Blk w B [.int .i64 S] 3) : Calls Tryz.prog 81 #[.int .i64 n, .pointer (some ⟨B, 0, none⟩)] w (Ret (.bool (!S.testBit n)) w) := by
  have HB := hide (bit32 (k := n) hS)
  have c0 := bS.cell 0 rfl
  have hz := HB.out
  have hn0 : min n 64 = n := by omega
  generalize S.testBit n = b at hz
  clear hn hS
  go_enter Tryz.func81, Tryz.ntmps81
  go_wp2_with fail
  go_ret
  exact ⟨rfl, Below.refl _ _⟩
theorem meets_any (r : RuleD) (S : Nat) (nv : Value) (w : World) (hS : S < 2 ^ 32) (hr : ∀ m ∈ r.needs, m < 32) (hn : IntsIn w.cell? nv (natsJ r.needs)) : Calls Tryz.prog 57 #[.agg #[nv, .int .i64 r.gives], .int .i64 S] w (Ret (.bool (meetB r S)) w) := by
  have HC : Hid (∀ X B, Below w.heap.size w X → Blk X B [.int .i64 S] 3 → Calls Tryz.prog 61 #[nv, .func (.func 81) #[] #[.pointer (some ⟨B, 0, none⟩)]] X (RetI (fun W => Below X.heap.size X W) (.bool (!meetB r S)))) := hide fun X B hX b1 => by
    have := has_ints (fun W => Below X.heap.size X W) 81 #[.pointer (some ⟨B, 0, none⟩)] (Go.Proofs.enters_of Tryz.func81 (by kernel_rfl) rfl) (fun x => !S.testBit x.toNat) (natsJ r.needs) nv X (fun W hI => IntsAt.below (below2 hX hI) hn) (Below.refl _ X) (fun W hI x hx => by
      obtain ⟨n, hn', rfl⟩ := List.mem_map.1 hx
      exact (meetc_any S n B W hS (hr n hn') (b1.later hI)).mono (fun e w' ⟨e1, e2⟩ => ⟨by rw [e1]; simp, below2 hI e2⟩))
    rwa [show (natsJ r.needs).any (fun x => !S.testBit x.toNat) = !meetB r S by
      unfold meetB natsJ
      rw [List.any_map, List.not_all_eq_any_not]; rfl] at this
  generalize meetB r S = b at HC
  obtain ⟨na, nc, rfl, -⟩ := id hn
  rw [natsJ_len] at HC ⊢
  generalize r.needs.length = ln at *
  generalize r.gives = g at *
  clear hn hr hS
  go_enter Tryz.func57, Tryz.ntmps57
  go_wp2_with fail
  generalize hX1 : World.alloc w _ = X1
  have zX1 : X1.heap.size = w.heap.size + 1 := by rw [← hX1]; simp
  have bX1 : Below w.heap.size w X1 := by rw [← hX1]; exact bal w _
  have bR_1 : Blk X1 (w.heap.size) [.slice na ln nc, .int .i64 g] 51 := by rw [← hX1]; exact Blk.newA w _ (by first | rfl | simp)
  generalize hX2 : World.alloc X1 _ = X2
  have zX2 : X2.heap.size = w.heap.size + 1 + 1 := by rw [← hX2]; simp [zX1]
  have bX2 : Below X1.heap.size X1 X2 := by rw [← hX2]; exact bal X1 _
  have bS : Blk X2 (w.heap.size + 1) [.int .i64 S] 3 := by rw [← hX2, ← zX1]; exact Blk.newA X1 _ (by first | rfl | simp)
  have bR := bR_1.later bX2
  have Xb := below2 (bX1) bX2
  have Xz := zX2
  clear hX1 zX1 bX1 hX2 zX2 bX2 bR_1
  have r0 := bR.cell 0 rfl
  go_wp2_with fail
  refine (HC.out _ _ Xb bS).mono ?_
  rintro e w1 ⟨rfl, hw1⟩
  go_wp2_with fail
  go_ret
  exact ⟨by simp, below2 Xb hw1⟩
end Go.Proofs.YtdjldidfnddpmaaGreatDoor
