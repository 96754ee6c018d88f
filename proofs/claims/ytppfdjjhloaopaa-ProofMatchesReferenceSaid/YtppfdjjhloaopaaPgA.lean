/- The law's examples, reckoned; leaf and pick of the law. Conditions: that integers are of 64 bits. -/
import Derived.Test.YtppfdjjhloaopaaPfF
import Derived.Test.YtppfdjjhloaopaaPw15
import Derived.Test.YtppfdjjhloaopaaBlkI
namespace Go.Proofs.Ytppfdjjhloaopaa
open Go.RowKit Go.Maps

def saP : ProgD := ⟨2, [⟨0, 0, 0, 0, [2, 2], 3⟩, ⟨0, 0, 0, 0, [-1, -1], -2⟩], [3, 4]⟩
def saQ : ProgD := ⟨2, [⟨0, 0, 0, 0, [2, 2], 3⟩], [3, 4]⟩
def saOne : List StepD := [⟨-1, 0, 0, [(0, 1), (1, 2)]⟩]
def saTwo : List StepD := [⟨-1, 0, 0, [(0, 1)]⟩]
def saThree : List StepD := [⟨0, 1, 2, []⟩, ⟨-1, 0, 0, [(1, 1)]⟩, ⟨1, 3, 4, []⟩, ⟨-1, 0, 0, [(1, 1)]⟩, ⟨-1, 0, 0, [(0, 1)]⟩]
def saGoal : List StepD := [⟨-1, 0, 0, [(0, 2), (1, 1)]⟩]
theorem sa_facts : refB saP saOne = true ∧ refB saP saTwo = false ∧ refB saP saThree = true ∧ wrongP saP saOne = -1 ∧ wrongP saP saTwo = 0 ∧ wrongP ⟨-1, [], []⟩ saOne = -2 ∧ wrongP saP [] = 0 := by decide +kernel
theorem sa_facts2 : boundsB saQ saGoal 6 = true ∧ boundsB saQ saGoal 5 = false ∧ refB saQ saGoal = false ∧ leavesN saThree 5 = 3 := by decide +kernel
theorem keys_two : intKeys (keysD [0, 1]) = [0, 1] := by decide +kernel
theorem sa_reach : reachF saOne saOne.length 0 = [0, 1] := by decide +kernel
theorem sa_used : usedP saP saOne = [0, 1] ∧ usedP saP saTwo = [] := by
  unfold usedP
  rw [sa_facts.2.2.2.1, sa_facts.2.2.2.2.1, if_pos rfl, if_neg (by decide), sa_reach]
  unfold keyed
  rw [keys_two]
  exact ⟨List.mergeSort_of_pairwise (by decide), rfl⟩
theorem leafl_any (wv : Value) (a : Option Addr) (n c : Nat) (w : World) (hw : wv = .slice a n c) : Calls Try.prog 31 #[wv] w (Ret (.agg #[.int .i64 (-1), .int .i64 0, .int .i64 0, wv]) w) := by
  subst hw
  go_enter Try.func31, Try.ntmps31
  go_wp2_with fail
  generalize hX1 : World.alloc w _ = X1
  have zX1 : X1.heap.size = w.heap.size + 1 := by rw [← hX1]; simp
  have bX1 : Below w.heap.size w X1 := by rw [← hX1]; exact bal w _
  have bS : Blk X1 (w.heap.size) [.int .i64 (-1), .int .i64 0, .int .i64 0, .slice a n c] 54 := by rw [← hX1]; exact Blk.newA w _ (by first | rfl | simp)
  have Xb := bX1
  have Xz := zX1
  clear hX1 zX1 bX1
  have c0 := bS.cell 0 rfl
  have c1 := bS.cell 1 rfl
  have c2 := bS.cell 2 rfl
  have c3 := bS.cell 3 rfl
  refine bodyPost_ret (v := .agg #[.int .i64 (-1), .int .i64 0, .int .i64 0, .slice a n c]) (by simp [results, Try.results31, go_sem, c0, c1, c2, c3]) rfl ?_
  exact ⟨rfl, Xb⟩
set_option maxHeartbeats 400000 in
theorem pickp_any (c n : Int) (w : World) (h1 : -9223372036854775808 ≤ c) (h2 : c ≤ 9223372036854775807) (hn : 0 < n) (hn2 : n ≤ 9223372036854775807) :
    Calls Try.prog 24 #[.int .i64 c, .int .i64 n] w (fun e w' => e = .returned (.int .i64 (pickF c n)) ∧ w' = w) := by
  have hne : n ≠ 0 := by omega
  have HF : Hid (pickF c n = absF c % n) := hide rfl
  have HP := hide (pickF_nonneg c hn)
  have HL := hide (pickF_lt c hn)
  by_cases hc : c < 0
  · have HA : Hid (absF c = -(c + 1)) := hide (by unfold absF; rw [if_pos hc])
    have HT : Hid ((-(c + 1)).tmod n = pickF c n) := hide (by rw [HF.out, HA.out]; exact Int.tmod_eq_emod_of_nonneg (by omega))
    go_enter Try.func24, Try.ntmps24
    go_wp2
    go_ret
    refine ⟨ret_int ?_, rfl⟩
    rw [← Int.neg_tmod]; exact HT.out
  · have HA : Hid (absF c = c) := hide (by unfold absF; rw [if_neg hc])
    have HT : Hid (c.tmod n = pickF c n) := hide (by rw [HF.out, HA.out]; exact Int.tmod_eq_emod_of_nonneg (by omega))
    go_enter Try.func24, Try.ntmps24
    go_wp2
    go_ret
    refine ⟨ret_int ?_, rfl⟩
    rw [HF.out, HA.out]
set_option maxHeartbeats 400000 in
theorem pickq_any (c n : Int) (w : World) (h1 : -9223372036854775808 ≤ c) (h2 : c ≤ 9223372036854775807) (hn : 0 < n) (hn2 : n ≤ 9223372036854775807) :
    Calls Try.prog 37 #[.int .i64 c, .int .i64 n] w (fun e w' => e = .returned (.int .i64 (pickF c n)) ∧ w' = w) := by
  have hne : n ≠ 0 := by omega
  have HF : Hid (pickF c n = absF c % n) := hide rfl
  have HP := hide (pickF_nonneg c hn)
  have HL := hide (pickF_lt c hn)
  by_cases hc : c < 0
  · have HA : Hid (absF c = -(c + 1)) := hide (by unfold absF; rw [if_pos hc])
    have HT : Hid ((-(c + 1)).tmod n = pickF c n) := hide (by rw [HF.out, HA.out]; exact Int.tmod_eq_emod_of_nonneg (by omega))
    go_enter Try.func37, Try.ntmps37
    go_wp2
    go_ret
    refine ⟨ret_int ?_, rfl⟩
    rw [← Int.neg_tmod]; exact HT.out
  · have HA : Hid (absF c = c) := hide (by unfold absF; rw [if_neg hc])
    have HT : Hid (c.tmod n = pickF c n) := hide (by rw [HF.out, HA.out]; exact Int.tmod_eq_emod_of_nonneg (by omega))
    go_enter Try.func37, Try.ntmps37
    go_wp2
    go_ret
    refine ⟨ret_int ?_, rfl⟩
    rw [HF.out, HA.out]
/-- weights and steps that a call lays in blocks of its own -/
theorem Blk.wts {w : World} {b : Nat} {vs : List Value} {l : List (Int × Int)} {t : TypeId} (h : Blk w b vs t) (hl : l.length ≤ 9223372036854775807)
    (h0 : ∀ k, k < l.length → vs[k * 2]? = some (.int .i64 (l.getD k wt0).1) ∧ vs[k * 2 + 1]? = some (.int .i64 (l.getD k wt0).2)) : WtsIn w.cell? (.slice (some ⟨b, 0, none⟩) l.length l.length) l :=
  ⟨some ⟨b, 0, none⟩, l.length, rfl, Nat.le_refl _, hl, fun k hk => ⟨b, 0, rfl, by rw [Nat.zero_add]; exact h.cell _ (h0 k hk).1, by rw [Nat.zero_add]; exact h.cell _ (h0 k hk).2⟩⟩
theorem Blk.steps {w : World} {b : Nat} {vs : List Value} {l : List StepD} {t : TypeId} (h : Blk w b vs t) (hl : l.length ≤ 9223372036854775807)
    (h0 : ∀ k, k < l.length → ∃ wv, vs[k * 4]? = some (.int .i64 (l.getD k st0).var) ∧ vs[k * 4 + 1]? = some (.int .i64 (l.getD k st0).no) ∧ vs[k * 4 + 2]? = some (.int .i64 (l.getD k st0).yes) ∧ vs[k * 4 + 3]? = some wv ∧ WtsIn w.cell? wv (l.getD k st0).wts) : StepsIn w.cell? (.slice (some ⟨b, 0, none⟩) l.length l.length) l :=
  ⟨some ⟨b, 0, none⟩, l.length, rfl, Nat.le_refl _, hl, fun k hk => by
    obtain ⟨wv, h1, h2, h3, h4, h5⟩ := h0 k hk
    refine ⟨b, 0, wv, rfl, ?_, ?_, ?_, ?_, h5⟩ <;> (rw [Nat.zero_add]; first | exact h.cell _ h1 | exact h.cell _ h2 | exact h.cell _ h3 | exact h.cell _ h4)⟩
theorem RowsIn.empty (c : Rd) : RowsIn c (.slice none 0 0) [] := ⟨none, 0, rfl, Nat.le_refl _, by omega, fun k hk => by simp at hk⟩
theorem WtsIn.empty (c : Rd) : WtsIn c (.slice none 0 0) [] := ⟨none, 0, rfl, Nat.le_refl _, by omega, fun k hk => by simp at hk⟩
end Go.Proofs.Ytppfdjjhloaopaa
