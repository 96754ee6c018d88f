/- Plain laws: what refutes, by the words of the chapter; it is sound, and the plain proof refutes. No condition. -/
import Derived.Test.YtppfdjjhloaopaaPmodH
namespace Go.Proofs.Ytppfdjjhloaopaa
open Go.RowKit

theorem setD_ne {α : Type} (l : List α) {i k : Nat} (h : i ≠ k) (x d : α) : (l.set k x).getD i d = l.getD i d := by
  rw [List.getD_eq_getElem?_getD, List.getD_eq_getElem?_getD, List.getElem?_set_ne (Ne.symm h)]
theorem setD_eq {α : Type} (l : List α) {k : Nat} (h : k < l.length) (x d : α) : (l.set k x).getD k d = x := by
  rw [List.getD_eq_getElem?_getD, List.getElem?_set_self h]; rfl
theorem idxF_at {α : Type} {p : α → Bool} : ∀ {l : List α}, l.any p = true → ∀ d : α, ∃ i : Nat, idxF p l = (i : Int) ∧ i < l.length ∧ p (l.getD i d) = true
  | [], h, _ => by simp at h
  | x :: t, h, d => by
    by_cases hx : p x = true
    · exact ⟨0, by simp [idxF, hx], by simp, by simpa using hx⟩
    · have ht : t.any p = true := by simp only [List.any_cons, Bool.or_eq_true] at h; exact h.resolve_left hx
      obtain ⟨i, h1, h2, h3⟩ := idxF_at ht d
      refine ⟨i + 1, ?_, by simp; omega, by simpa using h3⟩
      simp only [idxF, if_neg hx, h1]
      rw [if_neg (by omega)]; omega
def wt0 : Int × Int := (0, 0)
/-- coefficient k of the first i weighted rows added -/
def sumW (rows : List RowD) (ws : List (Int × Int)) (k : Nat) : Nat → Int
  | 0 => 0
  | i + 1 => sumW rows ws k i + (ws.getD i wt0).2 * (rows.getD (ws.getD i wt0).1.toNat row0).coef.getD k 0
def mostW (rows : List RowD) (ws : List (Int × Int)) : Nat → Int
  | 0 => 0
  | i + 1 => mostW rows ws i + (ws.getD i wt0).2 * (rows.getD (ws.getD i wt0).1.toNat row0).most
def okWt (m : Nat) (ws : List (Int × Int)) (i : Nat) : Bool :=
  decide (0 ≤ (ws.getD i wt0).1) && decide ((ws.getD i wt0).1 < m) && decide (1 ≤ (ws.getD i wt0).2) && decide ((ws.getD i wt0).2 ≤ 1000) && (decide (i = 0) || decide ((ws.getD (i - 1) wt0).1 < (ws.getD i wt0).1))
def okWts (m : Nat) (ws : List (Int × Int)) (k : Nat) : Bool := (List.range k).all (okWt m ws)
def takes (d s : Int) : Bool := decide (d = 1) || (decide (d < 0) && decide (s < 0))
/-- the least sum of the first k -/
def minK (rows : List RowD) (ws : List (Int × Int)) (dec : List Int) : Nat → Int
  | 0 => 0
  | k + 1 => minK rows ws dec k + (if takes (dec.getD k 0) (sumW rows ws k ws.length) then sumW rows ws k ws.length else 0)
def leafB (rows : List RowD) (st : StepD) (dec : List Int) : Bool :=
  decide (st.no = 0) && decide (st.yes = 0) && decide (1 ≤ st.wts.length) && decide (st.wts.length ≤ 8) && okWts rows.length st.wts st.wts.length && decide (mostW rows st.wts st.wts.length < minK rows st.wts dec dec.length)
def nodeB (st : StepD) (a : Int) (dec : List Int) : Bool :=
  decide (0 ≤ st.var) && decide (st.var < dec.length) && decide (st.wts.length = 0) && decide (a < st.no) && decide (a < st.yes) && decide (dec.getD st.var.toNat 0 < 0)
def refutesF (rows : List RowD) (l : List StepD) : Nat → Int → List Int → Bool
  | 0, _, _ => false
  | f + 1, a, dec => if 0 ≤ a ∧ a < l.length then
      (if (l.getD a.toNat st0).var = -1 then leafB rows (l.getD a.toNat st0) dec else
        nodeB (l.getD a.toNat st0) a dec && refutesF rows l f (l.getD a.toNat st0).no (dec.set (l.getD a.toNat st0).var.toNat 0) && refutesF rows l f (l.getD a.toNat st0).yes (dec.set (l.getD a.toNat st0).var.toNat 1))
    else false
def bitI (s k : Nat) : Int := if s / 2 ^ k % 2 = 1 then 1 else 0
/-- a choice is one of those that are still open -/
def Fits (dec : List Int) (s : Nat) : Prop := ∀ k, k < dec.length → dec.getD k 0 < 0 ∨ dec.getD k 0 = bitI s k
theorem Fits.set {dec : List Int} {s v : Nat} (h : Fits dec s) : Fits (dec.set v (bitI s v)) s := by
  intro k hk
  rw [List.length_set] at hk
  by_cases e : v = k
  · subst e; rw [setD_eq _ hk]; exact Or.inr rfl
  · rw [setD_ne _ (Ne.symm e)]; exact h k hk
theorem bitI_two (s k : Nat) : bitI s k = 0 ∨ bitI s k = 1 := by unfold bitI; split <;> simp
/-- the weighted sum for a choice -/
def combK (rows : List RowD) (ws : List (Int × Int)) (s : Nat) : Nat → Int
  | 0 => 0
  | k + 1 => combK rows ws s k + (if s / 2 ^ k % 2 = 1 then sumW rows ws k ws.length else 0)
theorem minK_le (rows : List RowD) (ws : List (Int × Int)) (dec : List Int) (s : Nat) (h : Fits dec s) : ∀ k, k ≤ dec.length → minK rows ws dec k ≤ combK rows ws s k
  | 0, _ => Int.le_refl _
  | k + 1, hk => by
    have ih := minK_le rows ws dec s h k (by omega)
    have hf := h k (by omega)
    simp only [minK, combK, bitI] at hf ⊢
    generalize dec.getD k 0 = d at hf
    generalize sumW rows ws k ws.length = x
    by_cases hb : s / 2 ^ k % 2 = 1
    · rw [if_pos hb] at hf ⊢
      by_cases ht : takes d x = true
      · rw [if_pos ht]; omega
      · rw [if_neg ht]; simp [takes] at ht; omega
    · rw [if_neg hb] at hf ⊢
      by_cases ht : takes d x = true
      · rw [if_pos ht]; simp [takes] at ht; omega
      · rw [if_neg ht]; omega
/-- weight j's share of it -/
def combW (rows : List RowD) (ws : List (Int × Int)) (s n : Nat) : Nat → Int
  | 0 => 0
  | i + 1 => combW rows ws s n i + (ws.getD i wt0).2 * chosK (rows.getD (ws.getD i wt0).1.toNat row0).coef s n
theorem comb_swap (rows : List RowD) (ws : List (Int × Int)) (s : Nat) : ∀ n, combK rows ws s n = combW rows ws s n ws.length := by
  have base : ∀ i, combW rows ws s 0 i = 0 := by
    intro i; induction i with
    | zero => rfl
    | succ i ih => simp [combW, ih, chosK]
  have step : ∀ n i, combW rows ws s (n + 1) i = combW rows ws s n i + (if s / 2 ^ n % 2 = 1 then sumW rows ws n i else 0) := by
    intro n i; induction i with
    | zero => simp [combW, sumW]
    | succ i ih =>
      simp only [combW, sumW, ih, chosK]
      split
      · rw [Int.mul_add]; omega
      · simp
  intro n; induction n with
  | zero => simp [combK, base]
  | succ n ih => simp only [combK, ih, step]
theorem combW_le (rows : List RowD) (ws : List (Int × Int)) (s n : Nat) (hr : ∀ r ∈ rows, r.coef.length = n ∧ keptB r s = true) (ho : okWts rows.length ws ws.length = true) : ∀ i, i ≤ ws.length → combW rows ws s n i ≤ mostW rows ws i
  | 0, _ => Int.le_refl _
  | i + 1, hi => by
    have ih := combW_le rows ws s n hr ho i (by omega)
    have h1 := List.all_eq_true.1 ho i (List.mem_range.2 (by omega))
    simp only [okWt, Bool.and_eq_true, decide_eq_true_eq] at h1
    obtain ⟨⟨⟨⟨h2, h3⟩, h4⟩, -⟩, -⟩ := h1
    have hm := getD_mem rows (ws.getD i wt0).1.toNat (d := row0) (by omega)
    obtain ⟨h5, h6⟩ := hr _ hm
    simp only [combW, mostW]
    have h7 : chosK (rows.getD (ws.getD i wt0).1.toNat row0).coef s n ≤ (rows.getD (ws.getD i wt0).1.toNat row0).most := by
      have h8 : chosenF (rows.getD (ws.getD i wt0).1.toNat row0).coef s ≤ (rows.getD (ws.getD i wt0).1.toNat row0).most := by simpa [keptB] using h6
      unfold chosenF at h8; rwa [h5] at h8
    have := Int.mul_le_mul_of_nonneg_left h7 (show 0 ≤ (ws.getD i wt0).2 by omega)
    omega
/-- what refutes holds no choice that keeps all rows -/
theorem refutes_sound (rows : List RowD) (l : List StepD) (n s : Nat) (hr : ∀ r ∈ rows, r.coef.length = n ∧ keptB r s = true) : ∀ (f : Nat) (a : Int) (dec : List Int), dec.length = n → Fits dec s → refutesF rows l f a dec = false
  | 0, _, _, _, _ => rfl
  | f + 1, a, dec, hd, hf => by
    simp only [refutesF]
    split
    · split
      · rw [← Bool.not_eq_true]
        intro h
        simp only [leafB, Bool.and_eq_true, decide_eq_true_eq] at h
        obtain ⟨⟨-, ho⟩, hlt⟩ := h
        have h1 := minK_le rows (l.getD a.toNat st0).wts dec s hf dec.length (Nat.le_refl _)
        rw [comb_swap, hd] at h1
        have h2 := combW_le rows _ s n hr ho _ (Nat.le_refl _)
        rw [hd] at hlt
        omega
      · have i0 := fun a' => refutes_sound rows l n s hr f a' (dec.set (l.getD a.toNat st0).var.toNat 0) (by simpa using hd)
        have i1 := fun a' => refutes_sound rows l n s hr f a' (dec.set (l.getD a.toNat st0).var.toNat 1) (by simpa using hd)
        have hs := hf.set (v := (l.getD a.toNat st0).var.toNat)
        rcases bitI_two s (l.getD a.toNat st0).var.toNat with e | e
        · rw [e] at hs; rw [i0 _ hs]; simp
        · rw [e] at hs; rw [i1 _ hs]; simp
    · rfl
/-- the first d things decided as s says, the others not -/
def decF (n d s : Nat) : List Int := (List.range n).map fun k => if k < d then bitI s k else -1
theorem decF_len (n d s : Nat) : (decF n d s).length = n := by simp [decF]
theorem decF_get {n d s k : Nat} (h : k < n) : (decF n d s).getD k 0 = if k < d then bitI s k else -1 := by
  simp [decF, List.getD_eq_getElem?_getD, List.getElem?_map, List.getElem?_range h]
theorem bitI_small {s d k : Nat} (hs : s < 2 ^ d) (hk : d ≤ k) : bitI s k = 0 := by
  unfold bitI
  have : s < 2 ^ k := Nat.lt_of_lt_of_le hs (Nat.pow_le_pow_right (by omega) hk)
  rw [Nat.div_eq_of_lt this]; simp
theorem bitI_add {s d k : Nat} (hk : k < d) : bitI (s + 2 ^ d) k = bitI s k := by
  unfold bitI
  have e : 2 ^ d = 2 ^ k * (2 * 2 ^ (d - k - 1)) := by
    rw [show 2 ^ k * (2 * 2 ^ (d - k - 1)) = 2 ^ k * 2 ^ (d - k - 1 + 1) by rw [Nat.pow_succ, Nat.mul_comm 2], ← Nat.pow_add]
    congr 1; omega
  rw [e, Nat.add_mul_div_left _ _ (Nat.pow_pos (by omega))]
  simp [Nat.add_mul_mod_self_left]
theorem bitI_top {s d : Nat} (hs : s < 2 ^ d) : bitI (s + 2 ^ d) d = 1 := by
  unfold bitI
  rw [Nat.add_div_right _ (Nat.pow_pos (by omega)), Nat.div_eq_of_lt hs]; simp
theorem ext_getD {a b : List Int} (hl : a.length = b.length) (h : ∀ k, k < a.length → a.getD k 0 = b.getD k 0) : a = b := by
  refine List.ext_getElem hl fun k h1 h2 => ?_
  have := h k h1
  rwa [List.getD_eq_getElem?_getD, List.getD_eq_getElem?_getD, List.getElem?_eq_getElem h1, List.getElem?_eq_getElem h2] at this
theorem decF_no {n d s : Nat} (hs : s < 2 ^ d) : (decF n d s).set d 0 = decF n (d + 1) s := by
  refine ext_getD (by simp [decF_len]) fun k hk => ?_
  have hk' : k < n := by simpa [decF_len] using hk
  by_cases e : d = k
  · subst e; rw [setD_eq _ (by simp [decF_len]; omega), decF_get hk', if_pos (by omega), bitI_small hs (Nat.le_refl _)]
  · rw [setD_ne _ (Ne.symm e), decF_get hk', decF_get hk']
    by_cases h1 : k < d
    · rw [if_pos h1, if_pos (by omega)]
    · rw [if_neg h1, if_neg (by omega)]
theorem decF_yes {n d s : Nat} (hs : s < 2 ^ d) : (decF n d s).set d 1 = decF n (d + 1) (s + 2 ^ d) := by
  refine ext_getD (by simp [decF_len]) fun k hk => ?_
  have hk' : k < n := by simpa [decF_len] using hk
  by_cases e : d = k
  · subst e; rw [setD_eq _ (by simp [decF_len]; omega), decF_get hk', if_pos (by omega), bitI_top hs]
  · rw [setD_ne _ (Ne.symm e), decF_get hk', decF_get hk']
    by_cases h1 : k < d
    · rw [if_pos h1, if_pos (by omega), bitI_add h1]
    · rw [if_neg h1, if_neg (by omega)]
/-- the least sum in one pass -/
theorem minK_least (rows : List RowD) (i : Int) (n d s : Nat) (c : List Int) (hc : (rows.getD i.toNat row0).coef = c) (hcl : c.length = n) :
    ∀ k, k ≤ n → minK rows [(i, 1)] (decF n d s) k = chosK (c.take d) s (min k d) + negK (c.drop d) (k - d)
  | 0, _ => by simp [minK, chosK, negK]
  | k + 1, hk => by
    have ih := minK_least rows i n d s c hc hcl k (by omega)
    have e : sumW rows [(i, 1)] k 1 = c.getD k 0 := by
      show (0 : Int) + 1 * (rows.getD i.toNat row0).coef.getD k 0 = _
      rw [hc]; omega
    simp only [minK, ih, decF_get (show k < n by omega), List.length_singleton, e]
    by_cases h1 : k < d
    · rw [if_pos h1, show min (k + 1) d = k + 1 by omega, show min k d = k by omega, show k + 1 - d = 0 by omega, show k - d = 0 by omega]
      simp only [chosK, getD_take h1, negK, bitI]
      by_cases hb : s / 2 ^ k % 2 = 1
      · simp [hb, takes]
      · simp [hb, takes]
    · rw [if_neg h1, show min (k + 1) d = d by omega, show min k d = d by omega, show k + 1 - d = (k - d) + 1 by omega]
      simp only [negK, getD_drop, show d + (k - d) = k by omega]
      generalize c.getD k 0 = y
      by_cases hb : y < 0
      · rw [if_pos hb, if_pos (by simp [takes, hb])]; omega
      · rw [if_neg hb, if_neg (by simp [takes, hb])]; omega
theorem leaf_bad (rows : List RowD) (n d s : Nat) (hd : d ≤ n) (hr : ∀ r ∈ rows, r.coef.length = n) (h : rows.any (badB d s) = true) : leafB rows (leafF (idxF (badB d s) rows)) (decF n d s) = true := by
  obtain ⟨i, hi, hlt, hbad⟩ : ∃ i : Nat, idxF (badB d s) rows = (i : Int) ∧ i < rows.length ∧ badB d s (rows.getD i row0) = true := idxF_at h row0
  rw [hi]
  have hl := hr _ (getD_mem rows i (d := row0) hlt)
  have hm := minK_least rows i n d s _ rfl hl n (Nat.le_refl _)
  simp only [leafB, leafF, Bool.and_eq_true, decide_eq_true_eq, List.length_singleton, decF_len]
  refine ⟨⟨by simp, ?_⟩, ?_⟩
  · simp [okWts, okWt, List.range_succ]; omega
  · rw [hm]
    simp only [badB, decide_eq_true_eq] at hbad
    have e : mostW rows [((i : Int), 1)] 1 = (rows.getD i row0).most := by
      show (0 : Int) + 1 * (rows.getD (i : Int).toNat row0).most = _
      simp
    rw [e]
    unfold leastF chosenF at hbad
    rw [List.length_take, List.length_drop, Int.toNat_natCast] at *
    rw [hl] at hbad
    rwa [show min n d = min d n by omega]
/-- where a proof has the plain one from place a on, it refutes -/
theorem grow_refutes (rows : List RowD) (n : Nat) (hr : ∀ r ∈ rows, r.coef.length = n) (href : ∀ s, s < 2 ^ n → rows.any (badB n s) = true) (l : List StepD) :
    ∀ (f d s a F : Nat), n = d + f → s < 2 ^ d → f < F → (∃ pre post, l = pre ++ growF rows f d s a ++ post ∧ pre.length = a) → refutesF rows l F a (decF n d s) = true := by
  intro f
  induction f with
  | zero =>
    rintro d s a F hn hs hF ⟨pre, post, rfl, rfl⟩
    obtain ⟨F, rfl⟩ : ∃ F', F = F' + 1 := ⟨F - 1, by omega⟩
    have hn' : d = n := by omega
    subst hn'
    have hst : (pre ++ growF rows 0 d s pre.length ++ post).getD pre.length st0 = leafF (idxF (badB d s) rows) := by
      simp [growF, List.getD_eq_getElem?_getD]
    simp only [refutesF, Int.toNat_natCast, hst]
    rw [if_pos ⟨by omega, by simp [growF]; omega⟩, if_pos (show (leafF (idxF (badB d s) rows)).var = -1 from rfl)]
    exact leaf_bad rows d d s (Nat.le_refl _) hr (href s hs)
  | succ f ih =>
    rintro d s a F hn hs hF ⟨pre, post, hl, rfl⟩
    obtain ⟨F, rfl⟩ : ∃ F', F = F' + 1 := ⟨F - 1, by omega⟩
    by_cases hb : rows.any (badB d s) = true
    · have hst : l.getD pre.length st0 = leafF (idxF (badB d s) rows) := by
        rw [hl]; simp [growF, hb, List.getD_eq_getElem?_getD]
      have hlen : pre.length < l.length := by rw [hl]; simp [growF, hb]
      simp only [refutesF, Int.toNat_natCast, hst]
      rw [if_pos ⟨by omega, by omega⟩, if_pos (show (leafF (idxF (badB d s) rows)).var = -1 from rfl)]
      exact leaf_bad rows n d s (by omega) hr hb
    · have hg : growF rows (f + 1) d s pre.length = nodeF d (pre.length + 1 : Nat) (pre.length + 1 + (growF rows f (d + 1) s (pre.length + 1)).length : Nat) :: (growF rows f (d + 1) s (pre.length + 1) ++ growF rows f (d + 1) (s + 2 ^ d) (pre.length + 1 + (growF rows f (d + 1) s (pre.length + 1)).length)) := by
        simp only [growF]; rw [if_neg hb]
      have hp : 2 ^ (d + 1) = 2 ^ d + 2 ^ d := by rw [Nat.pow_succ]; omega
      have j1 := ih (d + 1) s (pre.length + 1) F (by omega) (by omega) (by omega)
      have j2 := ih (d + 1) (s + 2 ^ d) (pre.length + 1 + (growF rows f (d + 1) s (pre.length + 1)).length) F (by omega) (by omega) (by omega)
      rw [hg] at hl
      generalize growF rows f (d + 1) s (pre.length + 1) = G1 at j1 j2 hl
      generalize growF rows f (d + 1) (s + 2 ^ d) (pre.length + 1 + G1.length) = G2 at j2 hl
      generalize hNd : nodeF d (pre.length + 1 : Nat) (pre.length + 1 + G1.length : Nat) = Nd at hl
      have k1 := j1 ⟨pre ++ [Nd], G2 ++ post, by rw [hl]; simp, by simp⟩
      have k2 := j2 ⟨pre ++ [Nd] ++ G1, post, by rw [hl]; simp, by simp; omega⟩
      have hst : l.getD pre.length st0 = Nd := by rw [hl]; simp [List.getD_eq_getElem?_getD]
      have hlen : pre.length < l.length := by rw [hl]; simp
      simp only [refutesF, Int.toNat_natCast, hst]
      rw [if_pos ⟨by omega, by omega⟩, ← hNd]
      rw [if_neg (by simp [nodeF])]
      simp only [Bool.and_eq_true]
      have e3 : (nodeF d (pre.length + 1 : Nat) (pre.length + 1 + G1.length : Nat)).var.toNat = d := by simp [nodeF]
      rw [e3, decF_no hs, decF_yes hs]
      refine ⟨⟨?_, k1⟩, k2⟩
      simp only [nodeB, Bool.and_eq_true, decide_eq_true_eq, e3, decF_len, decF_get (show d < n by omega), if_neg (show ¬ d < d by omega)]
      simp [nodeF]; omega
end Go.Proofs.Ytppfdjjhloaopaa
