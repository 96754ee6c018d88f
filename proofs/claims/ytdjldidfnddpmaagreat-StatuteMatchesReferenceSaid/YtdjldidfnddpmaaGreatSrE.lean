/- Walks of the reference of chapter 31: count, So, Answer. Conditions: how the laws lie in memory. -/
import Derived.Test.YtdjldidfnddpmaaGreatSrD
namespace Go.Proofs.YtdjldidfnddpmaaGreat
open Go.RowKit
/-- what is so of the numbers 0 to 19, as an array -/
abbrev soV (S : Nat → Bool) : Value := .agg #[.bool (S 0), .bool (S 1), .bool (S 2), .bool (S 3), .bool (S 4), .bool (S 5), .bool (S 6), .bool (S 7), .bool (S 8), .bool (S 9), .bool (S 10), .bool (S 11), .bool (S 12), .bool (S 13), .bool (S 14), .bool (S 15), .bool (S 16), .bool (S 17), .bool (S 18), .bool (S 19)]
abbrev soL (S : Nat → Bool) : List Value := [.bool (S 0), .bool (S 1), .bool (S 2), .bool (S 3), .bool (S 4), .bool (S 5), .bool (S 6), .bool (S 7), .bool (S 8), .bool (S 9), .bool (S 10), .bool (S 11), .bool (S 12), .bool (S 13), .bool (S 14), .bool (S 15), .bool (S 16), .bool (S 17), .bool (S 18), .bool (S 19)]
theorem soL_get (S : Nat → Bool) : ∀ n, n < 20 → (soL S)[n]? = some (.bool (S n))
  | 0, _ => rfl
  | 1, _ => rfl
  | 2, _ => rfl
  | 3, _ => rfl
  | 4, _ => rfl
  | 5, _ => rfl
  | 6, _ => rfl
  | 7, _ => rfl
  | 8, _ => rfl
  | 9, _ => rfl
  | 10, _ => rfl
  | 11, _ => rfl
  | 12, _ => rfl
  | 13, _ => rfl
  | 14, _ => rfl
  | 15, _ => rfl
  | 16, _ => rfl
  | 17, _ => rfl
  | 18, _ => rfl
  | 19, _ => rfl
  | n + 20, h => by omega
def updS (S : Nat → Bool) (n : Nat) (b : Bool) : Nat → Bool := fun x => if x = n then b else S x
theorem soL_set (S : Nat → Bool) (b : Bool) : ∀ n, n < 20 → (soL S).set n (.bool b) = soL (updS S n b)
  | 0, _ => rfl
  | 1, _ => rfl
  | 2, _ => rfl
  | 3, _ => rfl
  | 4, _ => rfl
  | 5, _ => rfl
  | 6, _ => rfl
  | 7, _ => rfl
  | 8, _ => rfl
  | 9, _ => rfl
  | 10, _ => rfl
  | 11, _ => rfl
  | 12, _ => rfl
  | 13, _ => rfl
  | 14, _ => rfl
  | 15, _ => rfl
  | 16, _ => rfl
  | 17, _ => rfl
  | 18, _ => rfl
  | 19, _ => rfl
  | n + 20, h => by omega
def cntS (S : Nat → Bool) (l : List Int) : Int := ((l.filter fun m => S m.toNat).length : Int)
theorem cnt_all (S : Nat → Bool) : ∀ l : List Int, decide (cntS S l = l.length) = l.all fun m => S m.toNat
  | [] => rfl
  | x :: l => by
    have ih := cnt_all S l
    have hle : (l.filter fun m => S m.toNat).length ≤ l.length := List.length_filter_le _ _
    cases h : S x.toNat
    · have e : cntS S (x :: l) = cntS S l := by simp [cntS, h]
      rw [e, List.all_cons, h, Bool.false_and]
      refine decide_eq_false ?_
      unfold cntS
      rw [List.length_cons]; omega
    · have e : cntS S (x :: l) = cntS S l + 1 := by simp [cntS, h]
      rw [e, List.all_cons, h, Bool.true_and, ← ih, List.length_cons]
      congr 1
      apply propext
      omega
theorem cnt_none (S : Nat → Bool) : ∀ l : List Int, decide (cntS S l = 0) = l.all fun m => !S m.toNat
  | [] => rfl
  | x :: l => by
    have ih := cnt_none S l
    cases h : S x.toNat
    · have e : cntS S (x :: l) = cntS S l := by simp [cntS, h]
      rw [e, List.all_cons, h, ih]; rfl
    · have e : cntS S (x :: l) = cntS S l + 1 := by simp [cntS, h]
      rw [e, List.all_cons, h]
      have : 0 ≤ cntS S l := by unfold cntS; omega
      exact decide_eq_false (by omega)
theorem cnt_take (S : Nat → Bool) {l : List Int} {k : Nat} (hk : k < l.length) : cntS S (l.take (k + 1)) = cntS S (l.take k) + if S (l.getD k 0).toNat then 1 else 0 := by
  unfold cntS
  rw [take_succ' l k 0 hk, List.filter_append, List.length_append]
  cases h : S (l.getD k 0).toNat
  · have e : ([l.getD k 0].filter fun m => S m.toNat) = [] := by simp only [List.filter_cons, h, List.filter_nil]; rfl
    rw [e]; simp
  · have e : ([l.getD k 0].filter fun m => S m.toNat) = [l.getD k 0] := by simp only [List.filter_cons, h, List.filter_nil]; rfl
    rw [e]; simp
theorem cnt_bd (S : Nat → Bool) (l : List Int) (k : Nat) : 0 ≤ cntS S (l.take k) ∧ cntS S (l.take k) ≤ k := by
  unfold cntS
  have h1 : ((l.take k).filter fun m => S m.toNat).length ≤ (l.take k).length := List.length_filter_le _ _
  have h2 : (l.take k).length ≤ k := by rw [List.length_take]; omega
  omega
set_option maxRecDepth 100000 in
set_option maxHeartbeats 4000000 in
theorem countr_any (l : List Int) (S : Nat → Bool) (v : Value) (w : World) (hv : IntsIn w.cell? v l) (hr : ∀ m ∈ l, 0 ≤ m ∧ m < 20) : Calls Tryz.prog 63 #[v, soV S] w (Ret (.int .i64 (cntS S l)) w) := by
  have HV := hide hv
  have HM := hide hr
  obtain ⟨a, m, rfl, hm1, hm2, -⟩ := id hv
  have hlI : (l.length : Int) ≤ 9223372036854775807 := by omega
  have HE : Hid (cntS S (l.take l.length) = cntS S l) := hide (by rw [List.take_length])
  have H0 : Hid (cntS S (l.take 0) = 0) := hide rfl
  have HT := hide (fun k hk => cnt_take S (l := l) (k := k) hk)
  have HB := hide (cnt_bd S l)
  have HG := hide (soL_get S)
  generalize cntS S l = R at HE ⊢
  generalize hcn : (fun k => cntS S (l.take k)) = cn at *
  have HCN := hide (fun k => congrFun hcn k)
  have HE' : Hid (cn l.length = R) := hide (by rw [← HCN.out]; exact HE.out)
  have H0' : Hid (cn 0 = 0) := hide (by rw [← HCN.out]; exact H0.out)
  clear hv hr hm1 hm2 HE H0 hcn
  go_enter Tryz.func63, Tryz.ntmps63
  go_wp2_with fail
  generalize hX1 : World.alloc w _ = X1
  have zX1 : X1.heap.size = w.heap.size + 1 := by rw [← hX1]; simp
  have bX1 : Below w.heap.size w X1 := by rw [← hX1]; exact bal w _
  have bS : Blk X1 (w.heap.size) (soL S) 95 := by rw [← hX1]; exact Blk.newA w _ (by first | rfl | simp)
  have Xb := bX1
  have Xz := zX1
  clear hX1 zX1 bX1
  go_loopw [5, 6] (fun nv i wr => ∃ k : Nat, k ≤ l.length ∧ i = .int .i64 k ∧ nv = .int .i64 (cn k) ∧ Below X1.heap.size X1 wr) (fun _ i _ => l.length - (intOf i).toNat)
  case atStart => exact ⟨0, by omega, rfl, by rw [H0'.out], Below.refl _ _⟩
  case round =>
    obtain ⟨k, hk, rfl, rfl, hbr⟩ := hrel
    by_cases hlt : k < l.length
    · have HK := hide hlt
      have hltI : (k : Int) < l.length := by omega
      obtain ⟨a', m', e', -, -, hc⟩ := HV.out
      cases e'
      obtain ⟨b, o, rfl, hckw⟩ := hc k hlt
      have hmr := HM.out _ (getD_mem l k hlt (d := 0))
      have HTK := hide (HT.out k hlt)
      rw [show cntS S (l.take (k + 1)) = cn (k + 1) from HCN.out (k + 1), show cntS S (l.take k) = cn k from HCN.out k] at HTK
      have hbd := HB.out k
      rw [show cntS S (l.take k) = cn k from HCN.out k] at hbd
      generalize l.getD k 0 = x at hckw hmr HTK
      obtain ⟨m, rfl⟩ : ∃ m : Nat, x = m := ⟨x.toNat, by omega⟩
      rw [Int.toNat_natCast] at HTK
      have hm20 : m < 20 := by omega
      have hm20I : (m : Int) < 20 := by omega
      have ck := keep (below2 Xb hbr) hckw
      have cs := (bS.later hbr).cell m (HG.out m hm20)
      generalize hgn : cn (k + 1) = cn1 at HTK
      have HGN := hide hgn
      generalize cn k = c0 at *
      obtain ⟨hbd1, hbd2⟩ := hbd
      clear hc hckw hgn
      generalize S m = sb at HTK cs
      cases sb
      · have HT2 : Hid (cn1 = c0) := hide (by rw [HTK.out]; simp)
        go_wp2_with fail
        go_roundw
        case rel => exact ⟨k + 1, by have := HK.out; omega, by go_num, by rw [HGN.out, HT2.out], hbr⟩
        case measure => have := HK.out; simp [intOf]; omega
      · have HT2 : Hid (cn1 = c0 + 1) := hide (by rw [HTK.out]; simp)
        go_wp2_with fail
        go_roundw
        case rel => exact ⟨k + 1, by have := HK.out; omega, by go_num, by rw [HGN.out, HT2.out], hbr⟩
        case measure => have := HK.out; simp [intOf]; omega
    · obtain rfl : k = l.length := by omega
      rw [HE'.out]
      have hwf := below2 Xb hbr
      go_wp2_with fail
      go_ret
      exact ⟨rfl, hwf⟩
/-- what the reference has found before it comes to a number -/
def soF (c : CodeD) (q : QueryD) (n : Nat) : Nat → Bool := fun x => (soR c q n).getD x false
def sayK (c : CodeD) (q : QueryD) (n k : Nat) : Bool := (List.range k).any fun i => statesB (c.facts.getD i fact0) q && saysB c n i
def fireK (c : CodeD) (q : QueryD) (n k : Nat) : Bool := (List.range k).any fun i => rulesB c i q && firesB c (fun m => soF c q n m.toNat) n i
theorem anyr_succ (p : Nat → Bool) (k : Nat) : (List.range (k + 1)).any p = ((List.range k).any p || p k) := by
  rw [List.range_succ, List.any_append]; simp
theorem soF_succ (c : CodeD) (q : QueryD) (n : Nat) : soF c q (n + 1) = updS (soF c q n) n (sayK c q n c.facts.length || fireK c q n c.clauses.length) := by
  funext x
  unfold soF updS
  show (soR c q n ++ [_]).getD x false = _
  by_cases h : x = n
  · subst h
    rw [if_pos rfl, getD_app_right _ _ _ _ (by rw [soR_len]; exact Nat.le_refl _), soR_len, Nat.sub_self]; rfl
  · rw [if_neg h]
    rcases Nat.lt_or_ge x n with h1 | h1
    · rw [getD_app_left _ _ _ _ (by rw [soR_len]; exact h1)]
    · show _ = (soR c q n).getD x false
      rw [List.getD_eq_getElem?_getD, List.getD_eq_getElem?_getD, List.getElem?_eq_none (by rw [List.length_append, soR_len]; simp; omega), List.getElem?_eq_none (by rw [soR_len]; omega)]
theorem soF_zero (c : CodeD) (q : QueryD) : soF c q 0 = fun _ => false := by funext x; rfl
theorem updS_same (S : Nat → Bool) (n : Nat) (h : S n = false) : updS S n false = S := by
  funext x; unfold updS; split
  · rename_i e; rw [e, h]
  · rfl
theorem updS_upd (S : Nat → Bool) (n : Nat) (b b' : Bool) : updS (updS S n b) n b' = updS S n b' := by
  funext x; unfold updS; split <;> rfl
theorem soF_at (c : CodeD) (q : QueryD) (n : Nat) : soF c q n n = false := by
  unfold soF
  rw [List.getD_eq_getElem?_getD, List.getElem?_eq_none (by rw [soR_len]; exact Nat.le_refl _)]; rfl
end Go.Proofs.YtdjldidfnddpmaaGreat
