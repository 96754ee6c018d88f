/- The walk of derives (chapter 23): it answers, whatever it answers. Conditions: how a valid theory and the list lie in memory; the list is not empty, and holds indices of rules. -/
import Derived.Test.YtdjldidfnddpmaaGreatDoorJuH
namespace Go.Proofs.YtdjldidfnddpmaaGreatDoor
open Go.RowKit
/-- a call answers yes or no -/
def SomeB (w : World) (e : Ending) (w' : World) : Prop := ∃ b, e = .returned (.bool b) ∧ Below w.heap.size w w'
theorem or_lt32 {S g : Nat} (hS : S < 2 ^ 32) (hg : g < 32) : S ||| 2 ^ g < 2 ^ 32 := Nat.or_lt_two_pow hS (pow32 hg)
set_option maxRecDepth 100000 in
set_option maxHeartbeats 2000000 in
theorem derives_any (s d S0 th : Nat) (v lv : Value) (rs : List RuleD) (l : List Nat) (w : World) (ht : OkT s d rs) (hv : RulesIn w.cell? v rs) (hl : IntsIn w.cell? lv (natsJ l)) (hi : ∀ i ∈ l, i < rs.length) (h0 : 0 < l.length) (h40 : l.length ≤ 40) (hS0 : S0 < 2 ^ 32) :
    Calls Tryz.prog 38 #[.agg #[.int .i64 s, .int .i64 d, v], .int .i64 S0, .int .i64 th, lv] w (SomeB w) := by
  have hR : ∀ i, i < rs.length → (∀ m ∈ (rs.getD i rule0).needs, m < 32) ∧ (rs.getD i rule0).gives < 32 := fun i hi => by
    have := ht.rule _ (getD_in hi)
    have h1 := ht.s
    have h2 := ht.d
    exact ⟨fun m hm => by have := this.2.2.1 m hm; omega, by omega⟩
  have hlen : rs.length ≤ 40 := ht.len
  have HRU := hide hR
  have HV := hide hv
  have HI := hide hi
  have HL := hide hl
  obtain ⟨a, c, rfl, -⟩ := id hv
  obtain ⟨la, lc, rfl, -⟩ := id hl
  rw [natsJ_len] at HL ⊢
  have hS0' := hide hS0
  have h40a : decide (40 < l.length) = false := decide_eq_false (by omega)
  have h40b : decide ((40 : Int) < (l.length : Int)) = false := decide_eq_false (by omega)
  have h0a : ((l.length : Int) == 0) = false := by rw [beq_eq_false_iff_ne]; omega
  have hlI : (l.length : Int) ≤ 9223372036854775807 := by omega
  have hrI : (rs.length : Int) ≤ 9223372036854775807 := by omega
  have e1 : wrap64 ((rs.length : Int) - 1) = (rs.length : Int) - 1 := wrap_id (by omega) (by omega)
  clear ht hv hR hl hi hS0
  go_enter Tryz.func38, Tryz.ntmps38
  go_wp2_with fail
  generalize hX1 : World.alloc w _ = X1
  have zX1 : X1.heap.size = w.heap.size + 1 := by rw [← hX1]; simp
  have bX1 : Below w.heap.size w X1 := by rw [← hX1]; exact bal w _
  have bT : Blk X1 (w.heap.size) [.int .i64 s, .int .i64 d, .slice a rs.length c] 47 := by rw [← hX1]; exact Blk.newA w _ (by first | rfl | simp)
  have Xb := bX1
  have Xz := zX1
  clear hX1 zX1 bX1
  go_wp2_with fail
  go_loopw [1, 9, 34] (fun sv xv i wr => ∃ (k S : Nat) (x : Int), k ≤ l.length ∧ i = .int .i64 k ∧ sv = .int .i64 S ∧ xv = .int .i64 x ∧ Hid (S < 2 ^ 32) ∧ Below X1.heap.size X1 wr) (fun _ _ i _ => l.length - (intOf i).toNat)
  case atStart => exact ⟨0, S0, _, by omega, rfl, rfl, rfl, hS0', Below.refl _ _⟩
  case round =>
    obtain ⟨k, S, x, hk, rfl, rfl, rfl, HS, hbr⟩ := hrel
    by_cases hlt : k < l.length
    · have HK := hide hlt
      have bT2 := bT.later hbr
      have t0 := bT2.cell 0 rfl
      have t1 := bT2.cell 1 rfl
      have t2 := bT2.cell 2 rfl
      obtain ⟨a', n', e', -, -, hc⟩ := IntsAt.below (below2 Xb hbr) HL.out
      rw [natsJ_len] at e'
      cases e'
      obtain ⟨lb, lo, rfl, hck⟩ := hc k (by rw [natsJ_len]; exact hlt)
      rw [natsJ_get hlt] at hck
      have hir := HI.out _ (getD_mem l k (d := 0) hlt)
      generalize l.getD k 0 = i at hck hir
      have hirI : (i : Int) < rs.length := by omega
      have HIS : Hid (∀ W, Calls Tryz.prog 56 #[.int .i64 i, .int .i64 0, .int .i64 ((rs.length : Int) - 1)] W fun e w' => e = .returned (.bool true) ∧ w' = W) := hide fun W => by
        have := jisIn_eq i 0 ((rs.length : Int) - 1) W
        rwa [show inB (i : Int) 0 ((rs.length : Int) - 1) = true by unfold inB; rw [decide_eq_true_eq]; omega] at this
      have hru := HRU.out i hir
      have HM := hide (fun X nv (hn : IntsIn X.cell? nv (natsJ (rs.getD i rule0).needs)) => meets_any (rs.getD i rule0) S nv X HS.out hru.1 hn)
      obtain ⟨ra', rn', re', -, -, hcr⟩ := HV.out.below (below2 Xb hbr)
      cases re'
      obtain ⟨b, o, nv, rfl, hcr2⟩ := hcr i hir
      obtain ⟨c0, c1, c2⟩ := hcr2
      obtain ⟨na, nc, rfl, -⟩ := id c2
      have hg32 := hru.2
      have hmin : min (rs.getD i rule0).gives 64 = (rs.getD i rule0).gives := by omega
      rw [natsJ_len] at c0
      have HC2 := hide c2
      rw [natsJ_len] at HC2
      generalize rs.getD i rule0 = r at *
      generalize hg : r.gives = g at *
      generalize r.needs.length = ln at *
      have HMM := hide (HM.out _ _ HC2.out)
      obtain ⟨P, hP, p1, hor⟩ := pow_or HS.out hg32
      have HS2 := hide (or_lt32 HS.out hg32)
      rw [hP] at HS2
      clear hc hcr c2 hru HM HC2 hP hg hg32 hir
      generalize meetB r S = mb at HMM
      go_wp2_with fail
      refine (HIS.out _).mono ?_
      rintro e w' ⟨rfl, hw⟩; obtain rfl := hw.symm
      go_wp2_with fail
      refine HMM.out.mono ?_
      rintro e w2 ⟨rfl, hw2⟩
      have hb2 := below2 hbr hw2
      have t0 := (bT2.later hw2).cell 0 rfl
      have t1 := (bT2.later hw2).cell 1 rfl
      have t2 := (bT2.later hw2).cell 2 rfl
      have c1 := keep hw2 c1
      cases mb
      · go_wp2_with fail
        go_ret
        exact ⟨_, rfl, below2 Xb hb2⟩
      · go_wp2_with fail
        go_roundw
        case rel => exact ⟨k + 1, S ||| P, _, by have := HK.out; omega, by go_num, rfl, rfl, HS2, hb2⟩
        case measure => have := HK.out; simp [intOf]; omega
    · go_wp2_with fail
      go_ret
      exact ⟨_, rfl, below2 Xb hbr⟩
end Go.Proofs.YtdjldidfnddpmaaGreatDoor
