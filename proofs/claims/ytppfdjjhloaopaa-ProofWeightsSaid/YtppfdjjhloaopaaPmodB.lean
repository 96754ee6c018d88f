/- Plain words on proofs of programs. No condition. -/
import Derived.Test.YtppfdjjhloaopaaPmodA
namespace Go.Proofs.Ytppfdjjhloaopaa
open Go.RowKit

/-- the sum of the first k numbers that are negative -/
def negK (l : List Int) : Nat → Int
  | 0 => 0
  | k + 1 => negK l k + (if l.getD k 0 < 0 then l.getD k 0 else 0)
def leastF (l : List Int) (d s : Nat) : Int := chosenF (l.take d) s + negK (l.drop d) (l.drop d).length
theorem negK_bound (l : List Int) (hl : coefsB l = true) : ∀ k, k ≤ l.length → -(1000000000 * k : Int) ≤ negK l k ∧ negK l k ≤ 0
  | 0, _ => by simp [negK]
  | k + 1, h => by
    have ih := negK_bound l hl k (by omega)
    have hb := all_at (d := 0) hl (k := k) (by omega)
    simp only [bndB, decide_eq_true_eq] at hb
    simp only [negK]
    split <;> omega
theorem coefsB_take {l : List Int} (d : Nat) (h : coefsB l = true) : coefsB (l.take d) = true :=
  List.all_eq_true.2 fun x hx => List.all_eq_true.1 h x (List.mem_of_mem_take hx)
theorem coefsB_drop {l : List Int} (d : Nat) (h : coefsB l = true) : coefsB (l.drop d) = true :=
  List.all_eq_true.2 fun x hx => List.all_eq_true.1 h x (List.mem_of_mem_drop hx)
theorem chosenF_bound (l : List Int) (s : Nat) (hl : coefsB l = true) : -(1000000000 * l.length : Int) ≤ chosenF l s ∧ chosenF l s ≤ 1000000000 * l.length := chosK_bound l s hl _ (Nat.le_refl _)
theorem getD_drop (l : List Int) (d k : Nat) : (l.drop d).getD k 0 = l.getD (d + k) 0 := by
  rw [List.getD_eq_getElem?_getD, List.getD_eq_getElem?_getD, List.getElem?_drop]
theorem getD_take {l : List Int} {d k : Nat} (h : k < d) : (l.take d).getD k 0 = l.getD k 0 := by
  rw [List.getD_eq_getElem?_getD, List.getD_eq_getElem?_getD, List.getElem?_take, if_pos h]
def goalF (g : List Int) (gain : Int) : RowD := ⟨0, 0, 0, 0, g.map fun x => -x, -(gain + 1)⟩
/-- the first k numbers, negative -/
def negs (l : List Int) (k : Nat) : List Int := (l.take k).map fun x => -x
theorem negs_succ {l : List Int} {k : Nat} (h : k < l.length) : negs l (k + 1) = negs l k ++ [-(l.getD k 0)] := by
  unfold negs; rw [take_succ' l k 0 h, List.map_append]; rfl
theorem negs_len {l : List Int} {k : Nat} (h : k ≤ l.length) : (negs l k).length = k := by
  unfold negs; rw [List.length_map, List.length_take]; omega
structure StepD where
  var : Int
  no : Int
  yes : Int
  wts : List (Int × Int)
def st0 : StepD := ⟨0, 0, 0, []⟩
def badB (d s : Nat) (r : RowD) : Bool := decide (r.most < leastF r.coef d s)
def leafF (i : Int) : StepD := ⟨-1, 0, 0, [(i, 1)]⟩
def nodeF (d : Nat) (no yes : Int) : StepD := ⟨d, no, yes, []⟩
/-- the steps of the plain proof from a case on; k: the index of the first of them -/
def growF (rows : List RowD) : Nat → Nat → Nat → Nat → List StepD
  | 0, d, s, _ => [leafF (idxF (badB d s) rows)]
  | f + 1, d, s, k => if rows.any (badB d s) then [leafF (idxF (badB d s) rows)] else
      nodeF d (k + 1 : Nat) (k + 1 + (growF rows f (d + 1) s (k + 1)).length : Nat) :: (growF rows f (d + 1) s (k + 1) ++ growF rows f (d + 1) (s + 2 ^ d) (k + 1 + (growF rows f (d + 1) s (k + 1)).length))
theorem growF_len (rows : List RowD) : ∀ f d s k, 1 ≤ (growF rows f d s k).length ∧ (growF rows f d s k).length + 1 ≤ 2 ^ (f + 1)
  | 0, d, s, k => by simp [growF]
  | f + 1, d, s, k => by
    have h1 := growF_len rows f (d + 1) s (k + 1)
    have h2 := growF_len rows f (d + 1) (s + 2 ^ d) (k + 1 + (growF rows f (d + 1) s (k + 1)).length)
    have h3 : 2 ^ (f + 1 + 1) = 2 ^ (f + 1) + 2 ^ (f + 1) := by rw [Nat.pow_succ]; omega
    simp only [growF]
    split
    · simp; omega
    · simp only [List.length_cons, List.length_append]; omega
theorem or_pow {s d : Nat} (hs : s < 2 ^ d) (hd : d ≤ 13) : bits BinOp.or IntKind.i64 (s : Int) (2 ^ d) = ((s + 2 ^ d : Nat) : Int) := by
  have h1 : 2 ^ d ≤ 2 ^ 13 := Nat.pow_le_pow_right (by omega) hd
  have e : (2 : Int) ^ d = ((2 ^ d : Nat) : Int) := by simp
  have hx : s ||| 2 ^ d = s + 2 ^ d := by
    have := Nat.two_pow_add_eq_or_of_lt hs 1
    rw [Nat.mul_one] at this
    rw [Nat.or_comm, ← this]; omega
  rw [e]
  show IntKind.i64.wrap ((BitVec.ofInt 64 (s : Int) ||| BitVec.ofInt 64 ((2 ^ d : Nat) : Int)).toNat : Int) = _
  rw [BitVec.toNat_or, BitVec.ofInt_natCast, BitVec.ofInt_natCast, BitVec.toNat_ofNat, BitVec.toNat_ofNat, Nat.mod_eq_of_lt (by omega), Nat.mod_eq_of_lt (by omega), hx, IntKind.wrap_i64]
  omega
structure BestD where
  found : Bool
  set : Nat
  gain : Int
def best0 : BestD := ⟨false, 0, 0⟩
def bestStep (g : List Int) (b : BestD) (s : Nat) : BestD := if b.found && decide (chosenF g s ≤ b.gain) then b else ⟨true, s, chosenF g s⟩
def bestUp (g : List Int) (l : List Nat) : BestD := l.foldl (bestStep g) best0
theorem bestUp_snoc (g : List Int) (l : List Nat) (s : Nat) : bestUp g (l ++ [s]) = bestStep g (bestUp g l) s := by simp [bestUp]
def bestF (p : ProgD) : BestD := bestUp p.gain (goodF p)
def rowsF (p : ProgD) : List RowD := if (bestF p).found then p.rows ++ [goalF p.gain (bestF p).gain] else p.rows
structure SolD where
  found : Bool
  set : Int
  gain : Int
  proof : List StepD
def solveF (p : ProgD) : SolD := if validB p then ⟨(bestF p).found, (bestF p).set, (bestF p).gain, growF (rowsF p) p.vars.toNat 0 0 0⟩ else ⟨false, 0, 0, []⟩
theorem bestUp_none {g : List Int} : ∀ {l : List Nat}, l ≠ [] → (bestUp g l).found = true := by
  intro l hl
  rcases List.eq_nil_or_concat l with rfl | ⟨m, x, rfl⟩
  · exact absurd rfl hl
  · rw [List.concat_eq_append, bestUp_snoc]; unfold bestStep; split
    · rename_i h; simp at h; exact h.1
    · rfl
/-- what the best of a list is -/
theorem bestUp_spec (g : List Int) : ∀ (n : Nat) (l : List Nat), l.length = n → ((bestUp g l).found = false → l = [] ∧ bestUp g l = best0) ∧
    ((bestUp g l).found = true → (bestUp g l).set ∈ l ∧ (bestUp g l).gain = chosenF g (bestUp g l).set ∧ ∀ s ∈ l, chosenF g s ≤ (bestUp g l).gain)
  | 0, l, h => by
    obtain rfl := List.length_eq_zero_iff.1 h
    exact ⟨fun _ => ⟨rfl, rfl⟩, fun h => by simp [bestUp, best0] at h⟩
  | n + 1, l, h => by
    rcases List.eq_nil_or_concat l with rfl | ⟨m, x, rfl⟩
    · simp at h
    rw [List.concat_eq_append] at h ⊢
    obtain ⟨i1, i2⟩ := bestUp_spec g n m (by simpa using h)
    rw [bestUp_snoc]
    unfold bestStep
    cases hf : (bestUp g m).found
    · rw [if_neg (by simp)]
      obtain ⟨rfl, -⟩ := i1 hf
      exact ⟨fun h => (by cases h), fun _ => ⟨List.mem_append_right _ (List.mem_cons_self ..), rfl, fun s hs => by simp at hs; rw [hs]; exact Int.le_refl _⟩⟩
    · obtain ⟨j1, j2, j3⟩ := i2 hf
      by_cases hc : chosenF g x ≤ (bestUp g m).gain
      · rw [if_pos (by simp [hc])]
        refine ⟨fun h => (by rw [hf] at h; cases h), fun _ => ⟨List.mem_append_left _ j1, j2, fun s hs => ?_⟩⟩
        rcases List.mem_append.1 hs with h1 | h1
        · exact j3 s h1
        · simp at h1; rw [h1]; exact hc
      · rw [if_neg (by simp [hc])]
        refine ⟨fun h => (by cases h), fun _ => ⟨List.mem_append_right _ (List.mem_cons_self ..), rfl, fun s hs => ?_⟩⟩
        rcases List.mem_append.1 hs with h1 | h1
        · have := j3 s h1
          show _ ≤ chosenF g x
          omega
        · simp at h1; rw [h1]; exact Int.le_refl _
theorem chosK_neg (l : List Int) (s : Nat) : ∀ k, k ≤ l.length → chosK (l.map fun x => -x) s k = - chosK l s k
  | 0, _ => rfl
  | k + 1, h => by
    have e : (l.map fun x => -x).getD k 0 = -(l.getD k 0) := by
      rw [List.getD_eq_getElem?_getD, List.getD_eq_getElem?_getD, List.getElem?_map, List.getElem?_eq_getElem (by omega)]; rfl
    simp only [chosK, chosK_neg l s k (by omega), e]
    split <;> omega
theorem chosenF_neg (l : List Int) (s : Nat) : chosenF (l.map fun x => -x) s = - chosenF l s := by
  unfold chosenF; rw [List.length_map]; exact chosK_neg l s _ (Nat.le_refl _)
theorem coefsB_neg {l : List Int} (h : coefsB l = true) : coefsB (l.map fun x => -x) = true := by
  refine List.all_eq_true.2 fun x hx => ?_
  obtain ⟨y, hy, rfl⟩ := List.mem_map.1 hx
  have := List.all_eq_true.1 h y hy
  simp only [bndB, decide_eq_true_eq] at this ⊢
  omega
theorem leastF_full (l : List Int) (s : Nat) : leastF l l.length s = chosenF l s := by
  unfold leastF; rw [List.take_length, List.drop_length]; simp [negK]
theorem mem_goodUp {l : List RowD} {k s : Nat} : s ∈ goodUp l k ↔ s < k ∧ keptAll l s = true := by
  simp [goodUp]
/-- at the last thing some row refutes -/
theorem refuted (p : ProgD) (hV : validB p = true) : ∀ s, s < 2 ^ p.vars.toNat → (rowsF p).any (badB p.vars.toNat s) = true := by
  intro s hs
  obtain ⟨v0, v12, hfew, hrs, hgl, hgc⟩ := valid_parts hV
  have key : ∀ r ∈ p.rows, keptB r s = false → badB p.vars.toNat s r = true := by
    intro r hr hk
    have e : r.coef.length = p.vars.toNat := by have := hrs r hr; omega
    simp only [badB, decide_eq_true_eq, ← e, leastF_full]
    simp only [keptB, decide_eq_false_iff_not] at hk
    omega
  obtain ⟨b1, b2⟩ := bestUp_spec p.gain _ (goodF p) rfl
  cases hk : keptAll p.rows s
  · simp only [keptAll] at hk
    obtain ⟨r, hr, hkr⟩ : ∃ r ∈ p.rows, keptB r s = false := by
      have : ¬ ∀ r ∈ p.rows, keptB r s = true := by rw [← List.all_eq_true]; simp [hk]
      refine Decidable.byContradiction fun hn => this fun r hr => ?_
      cases h : keptB r s
      · exact absurd ⟨r, hr, h⟩ hn
      · rfl
    refine List.any_eq_true.2 ⟨r, ?_, key r hr hkr⟩
    unfold rowsF; split
    · exact List.mem_append_left _ hr
    · exact hr
  · have hg : s ∈ goodF p := mem_goodUp.2 ⟨hs, hk⟩
    have hf : (bestF p).found = true := bestUp_none (fun h => by rw [h] at hg; cases hg)
    obtain ⟨c1, c2, c3⟩ := b2 hf
    refine List.any_eq_true.2 ⟨goalF p.gain (bestF p).gain, by unfold rowsF; rw [if_pos hf]; simp, ?_⟩
    have e : (goalF p.gain (bestF p).gain).coef.length = p.vars.toNat := by simp [goalF]; omega
    simp only [badB, decide_eq_true_eq, ← e, leastF_full]
    have h3 := c3 s hg
    have e2 : (goalF p.gain (bestF p).gain).coef = p.gain.map fun x => -x := rfl
    rw [e2, chosenF_neg]
    show -((bestUp p.gain (goodF p)).gain + 1) < _
    omega
end Go.Proofs.Ytppfdjjhloaopaa
