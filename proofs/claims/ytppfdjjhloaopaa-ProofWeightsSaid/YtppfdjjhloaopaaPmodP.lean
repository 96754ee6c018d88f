/- Plain laws on proofs: the rows that are used, further rows and lesser bounds, multiplied weights, a step behind. No condition. -/
import Derived.Test.YtppfdjjhloaopaaPmodN
namespace Go.Proofs.Ytppfdjjhloaopaa
open Go.RowKit

/-- the rows that the leaves name that are reached from a step on -/
def reachF (l : List StepD) : Nat → Int → List Int
  | 0, _ => []
  | f + 1, a => if (l.getD a.toNat st0).var = -1 then (l.getD a.toNat st0).wts.map (·.1) else reachF l f (l.getD a.toNat st0).no ++ reachF l f (l.getD a.toNat st0).yes
theorem combW_used (rows : List RowD) (ws : List (Int × Int)) (s n : Nat) (hr : ∀ j, j < ws.length → (rows.getD (ws.getD j wt0).1.toNat row0).coef.length = n ∧ keptB (rows.getD (ws.getD j wt0).1.toNat row0) s = true)
    (ho : okWts rows.length ws ws.length = true) : ∀ i, i ≤ ws.length → combW rows ws s n i ≤ mostW rows ws i
  | 0, _ => Int.le_refl _
  | i + 1, hi => by
    have ih := combW_used rows ws s n hr ho i (by omega)
    have h1 := List.all_eq_true.1 ho i (List.mem_range.2 (by omega))
    simp only [okWt, Bool.and_eq_true, decide_eq_true_eq] at h1
    obtain ⟨⟨⟨⟨h2, h3⟩, h4⟩, -⟩, -⟩ := h1
    obtain ⟨h5, h6⟩ := hr i (by omega)
    simp only [combW, mostW]
    have h7 : chosK (rows.getD (ws.getD i wt0).1.toNat row0).coef s n ≤ (rows.getD (ws.getD i wt0).1.toNat row0).most := by
      have h8 : chosenF (rows.getD (ws.getD i wt0).1.toNat row0).coef s ≤ (rows.getD (ws.getD i wt0).1.toNat row0).most := by simpa [keptB] using h6
      unfold chosenF at h8; rwa [h5] at h8
    have := Int.mul_le_mul_of_nonneg_left h7 (show 0 ≤ (ws.getD i wt0).2 by omega)
    omega
/-- the rows that are used cannot be kept together -/
theorem refutes_used (rows : List RowD) (l : List StepD) (n s : Nat) (hr : ∀ r ∈ rows, r.coef.length = n) : ∀ (f : Nat) (a : Int) (dec : List Int), dec.length = n → Fits dec s →
    (∀ i ∈ reachF l f a, keptB (rows.getD i.toNat row0) s = true) → refutesF rows l f a dec = false
  | 0, _, _, _, _, _ => rfl
  | f + 1, a, dec, hd, hf, hu => by
    simp only [refutesF]
    simp only [reachF] at hu
    split
    · split
      · rename_i hv
        rw [if_pos hv] at hu
        rw [← Bool.not_eq_true]
        intro h
        simp only [leafB, Bool.and_eq_true, decide_eq_true_eq] at h
        obtain ⟨⟨-, ho⟩, hlt⟩ := h
        have h1 := minK_le rows (l.getD a.toNat st0).wts dec s hf dec.length (Nat.le_refl _)
        rw [comb_swap, hd] at h1
        have h2 := combW_used rows (l.getD a.toNat st0).wts s n (fun j hj => by
          have hm := getD_mem (l.getD a.toNat st0).wts j (d := wt0) hj
          have hk := hu _ (List.mem_map.2 ⟨_, hm, rfl⟩)
          have h5 := List.all_eq_true.1 ho j (List.mem_range.2 hj)
          simp only [okWt, Bool.and_eq_true, decide_eq_true_eq] at h5
          obtain ⟨⟨⟨⟨h6, h7⟩, -⟩, -⟩, -⟩ := h5
          exact ⟨hr _ (getD_mem rows _ (by omega)), hk⟩) ho _ (Nat.le_refl _)
        rw [hd] at hlt
        omega
      · rename_i hv
        rw [if_neg hv] at hu
        have i0 := fun a' => refutes_used rows l n s hr f a' (dec.set (l.getD a.toNat st0).var.toNat 0) (by simpa using hd)
        have i1 := fun a' => refutes_used rows l n s hr f a' (dec.set (l.getD a.toNat st0).var.toNat 1) (by simpa using hd)
        have hs := hf.set (v := (l.getD a.toNat st0).var.toNat)
        rcases bitI_two s (l.getD a.toNat st0).var.toNat with e | e
        · rw [e] at hs; rw [i0 _ hs (fun i hi => hu i (List.mem_append_left _ hi))]; simp
        · rw [e] at hs; rw [i1 _ hs (fun i hi => hu i (List.mem_append_right _ hi))]; simp
    · rfl
/-- rows with the same numbers and bounds that are not greater, perhaps more of them -/
def Tighter (rows rows' : List RowD) : Prop :=
  rows.length ≤ rows'.length ∧ ∀ i : Nat, i < rows.length → (rows'.getD i row0).coef = (rows.getD i row0).coef ∧ (rows'.getD i row0).most ≤ (rows.getD i row0).most
theorem okWts_more {m m' : Nat} (h : m ≤ m') {ws : List (Int × Int)} {k : Nat} (ho : okWts m ws k = true) : okWts m' ws k = true := by
  refine List.all_eq_true.2 fun i hi => ?_
  have := List.all_eq_true.1 ho i hi
  simp only [okWt, Bool.and_eq_true, decide_eq_true_eq] at this ⊢
  obtain ⟨⟨⟨⟨h1, h2⟩, h3⟩, h4⟩, h5⟩ := this
  exact ⟨⟨⟨⟨h1, by omega⟩, h3⟩, h4⟩, h5⟩
theorem okWts_at {m : Nat} {ws : List (Int × Int)} {k i : Nat} (ho : okWts m ws k = true) (hi : i < k) : 0 ≤ (ws.getD i wt0).1 ∧ (ws.getD i wt0).1.toNat < m ∧ 1 ≤ (ws.getD i wt0).2 := by
  have := List.all_eq_true.1 ho i (List.mem_range.2 hi)
  simp only [okWt, Bool.and_eq_true, decide_eq_true_eq] at this
  omega
theorem sumW_tight {rows rows' : List RowD} (ht : Tighter rows rows') {ws : List (Int × Int)} {m : Nat} (ho : okWts rows.length ws m = true) (k : Nat) : ∀ i, i ≤ m → sumW rows' ws k i = sumW rows ws k i
  | 0, _ => rfl
  | i + 1, hi => by
    have h1 := okWts_at ho (i := i) (by omega)
    simp only [sumW]
    rw [sumW_tight ht ho k i (by omega), (ht.2 _ h1.2.1).1]
theorem mostW_tight {rows rows' : List RowD} (ht : Tighter rows rows') {ws : List (Int × Int)} {m : Nat} (ho : okWts rows.length ws m = true) : ∀ i, i ≤ m → mostW rows' ws i ≤ mostW rows ws i
  | 0, _ => Int.le_refl _
  | i + 1, hi => by
    have h1 := okWts_at ho (i := i) (by omega)
    have ih := mostW_tight ht ho i (by omega)
    have h2 := (ht.2 _ h1.2.1).2
    simp only [mostW]
    have := Int.mul_le_mul_of_nonneg_left h2 (show 0 ≤ (ws.getD i wt0).2 by omega)
    omega
theorem minK_tight {rows rows' : List RowD} (ht : Tighter rows rows') {ws : List (Int × Int)} (ho : okWts rows.length ws ws.length = true) (dec : List Int) : ∀ k, minK rows' ws dec k = minK rows ws dec k
  | 0 => rfl
  | k + 1 => by
    simp only [minK]
    rw [minK_tight ht ho dec k, sumW_tight ht ho k _ (Nat.le_refl _)]
theorem leafB_tight {rows rows' : List RowD} (ht : Tighter rows rows') {st : StepD} {dec : List Int} (h : leafB rows st dec = true) : leafB rows' st dec = true := by
  simp only [leafB, Bool.and_eq_true, decide_eq_true_eq] at h ⊢
  obtain ⟨⟨h1, ho⟩, hlt⟩ := h
  have h2 := mostW_tight ht ho _ (Nat.le_refl _)
  rw [minK_tight ht ho]
  exact ⟨⟨h1, okWts_more ht.1 ho⟩, by omega⟩
theorem refutes_tight {rows rows' : List RowD} (ht : Tighter rows rows') (l : List StepD) : ∀ (f : Nat) (a : Int) (dec : List Int), refutesF rows l f a dec = true → refutesF rows' l f a dec = true
  | 0, _, _, h => by simp [refutesF] at h
  | f + 1, a, dec, h => by
    simp only [refutesF] at h ⊢
    split
    · rename_i ha
      rw [if_pos ha] at h
      split
      · rename_i hv
        rw [if_pos hv] at h
        exact leafB_tight ht h
      · rename_i hv
        rw [if_neg hv] at h
        simp only [Bool.and_eq_true] at h ⊢
        exact ⟨⟨h.1.1, refutes_tight ht l f _ _ h.1.2⟩, refutes_tight ht l f _ _ h.2⟩
    · rename_i ha
      rw [if_neg ha] at h; cases h
theorem tight_app (rows more : List RowD) : Tighter rows (rows ++ more) :=
  ⟨by simp, fun i hi => by rw [getD_app_left _ _ _ _ hi]; exact ⟨rfl, Int.le_refl _⟩⟩
theorem tight_goal (rows : List RowD) (gl : List Int) {g g' : Int} (h : g ≤ g') : Tighter (rows ++ [goalF gl g]) (rows ++ [goalF gl g']) := by
  refine ⟨by simp, fun i hi => ?_⟩
  rcases Nat.lt_or_ge i rows.length with h1 | h1
  · rw [getD_app_left _ _ _ _ h1, getD_app_left _ _ _ _ h1]; exact ⟨rfl, Int.le_refl _⟩
  · have : i = rows.length := by simp at hi; omega
    subst this
    rw [getD_app_right _ _ _ _ (Nat.le_refl _), getD_app_right _ _ _ _ (Nat.le_refl _)]
    simp [goalF]; omega
/-- all weights of a step multiplied -/
def scaleW (ws : List (Int × Int)) (n : Int) : List (Int × Int) := ws.map fun w => (w.1, w.2 * n)
def scaleSt (st : StepD) (n : Int) : StepD := ⟨st.var, st.no, st.yes, scaleW st.wts n⟩
theorem scale_get (ws : List (Int × Int)) (n : Int) (i : Nat) : (scaleW ws n).getD i wt0 = ((ws.getD i wt0).1, (ws.getD i wt0).2 * n) := by
  unfold scaleW
  rw [List.getD_eq_getElem?_getD, List.getD_eq_getElem?_getD, List.getElem?_map]
  cases ws[i]? <;> simp [wt0]
theorem sumW_scale (rows : List RowD) (ws : List (Int × Int)) (n : Int) (k : Nat) : ∀ i, sumW rows (scaleW ws n) k i = n * sumW rows ws k i
  | 0 => by simp [sumW]
  | i + 1 => by
    simp only [sumW, scale_get, sumW_scale rows ws n k i, Int.mul_add]
    rw [Int.mul_comm (ws.getD i wt0).2 n, Int.mul_assoc]
theorem mostW_scale (rows : List RowD) (ws : List (Int × Int)) (n : Int) : ∀ i, mostW rows (scaleW ws n) i = n * mostW rows ws i
  | 0 => by simp [mostW]
  | i + 1 => by
    simp only [mostW, scale_get, mostW_scale rows ws n i, Int.mul_add]
    rw [Int.mul_comm (ws.getD i wt0).2 n, Int.mul_assoc]
theorem scale_len (ws : List (Int × Int)) (n : Int) : (scaleW ws n).length = ws.length := by simp [scaleW]
theorem takes_scale {n : Int} (hn : 1 ≤ n) (d x : Int) : takes d (n * x) = takes d x := by
  unfold takes
  have : n * x < 0 ↔ x < 0 := by
    constructor
    · intro h
      rcases Int.lt_or_le x 0 with h1 | h1
      · exact h1
      · have := Int.mul_nonneg (show 0 ≤ n by omega) h1; omega
    · intro h
      have := Int.mul_lt_mul_of_pos_left h (show 0 < n by omega)
      simpa using this
  simp [this]
theorem minK_scale (rows : List RowD) (ws : List (Int × Int)) {n : Int} (hn : 1 ≤ n) (dec : List Int) : ∀ k, minK rows (scaleW ws n) dec k = n * minK rows ws dec k
  | 0 => by simp [minK]
  | k + 1 => by
    simp only [minK]
    rw [minK_scale rows ws hn dec k, scale_len, sumW_scale, takes_scale hn]
    split
    · rw [Int.mul_add]
    · simp
theorem leafB_scale (rows : List RowD) (st : StepD) {n : Int} (hn : 1 ≤ n) (hw : ∀ w ∈ st.wts, 1 ≤ w.2 ∧ w.2 * n ≤ 1000) (dec : List Int) : leafB rows (scaleSt st n) dec = leafB rows st dec := by
  have ho : okWts rows.length (scaleW st.wts n) st.wts.length = okWts rows.length st.wts st.wts.length := by
    have key : ∀ i ∈ List.range st.wts.length, okWt rows.length (scaleW st.wts n) i = okWt rows.length st.wts i := fun i hi => by
      have hi := List.mem_range.1 hi
      have h1 := hw _ (getD_mem st.wts i (d := wt0) hi)
      unfold okWt
      rw [scale_get, scale_get]
      generalize st.wts.getD i wt0 = q at *
      obtain ⟨q1, q2⟩ := q
      have h1 : 1 ≤ q2 ∧ q2 * n ≤ 1000 := h1
      have h2 : q2 ≤ q2 * n := by
        have := Int.mul_le_mul_of_nonneg_left hn (show 0 ≤ q2 by omega)
        rwa [Int.mul_one] at this
      have e1 : decide (1 ≤ q2 * n) = decide (1 ≤ q2) := by rw [decide_eq_true h1.1, decide_eq_true]; omega
      have e2 : decide (q2 * n ≤ 1000) = decide (q2 ≤ 1000) := by rw [decide_eq_true h1.2, decide_eq_true]; omega
      simp only [e1, e2]
    unfold okWts
    rw [Bool.eq_iff_iff, List.all_eq_true, List.all_eq_true]
    exact ⟨fun h i hi => by rw [← key i hi]; exact h i hi, fun h i hi => by rw [key i hi]; exact h i hi⟩
  unfold leafB scaleSt
  simp only [scale_len, ho, mostW_scale, minK_scale rows st.wts hn]
  congr 1
  rw [Bool.eq_iff_iff, decide_eq_true_eq, decide_eq_true_eq]
  exact Int.mul_lt_mul_left (by omega)
/-- a proof in which the weights of a step are multiplied -/
theorem refutes_scale (rows : List RowD) (l : List StepD) (k : Nat) {n : Int} (hn : 1 ≤ n) (hw : ∀ w ∈ (l.getD k st0).wts, 1 ≤ w.2 ∧ w.2 * n ≤ 1000) : ∀ (f : Nat) (a : Int) (dec : List Int),
    refutesF rows (l.set k (scaleSt (l.getD k st0) n)) f a dec = refutesF rows l f a dec
  | 0, _, _ => rfl
  | f + 1, a, dec => by
    have ih := refutes_scale rows l k hn hw f
    have hst : ((l.set k (scaleSt (l.getD k st0) n)).getD a.toNat st0).var = (l.getD a.toNat st0).var ∧ ((l.set k (scaleSt (l.getD k st0) n)).getD a.toNat st0).no = (l.getD a.toNat st0).no ∧
        ((l.set k (scaleSt (l.getD k st0) n)).getD a.toNat st0).yes = (l.getD a.toNat st0).yes ∧ ((l.set k (scaleSt (l.getD k st0) n)).getD a.toNat st0).wts.length = (l.getD a.toNat st0).wts.length ∧
        leafB rows ((l.set k (scaleSt (l.getD k st0) n)).getD a.toNat st0) dec = leafB rows (l.getD a.toNat st0) dec := by
      by_cases e : a.toNat = k
      · rcases Nat.lt_or_ge k l.length with h1 | h1
        · rw [e, setD_eq _ h1]
          exact ⟨rfl, rfl, rfl, scale_len _ _, leafB_scale rows _ hn hw dec⟩
        · rw [List.set_eq_of_length_le h1]; exact ⟨rfl, rfl, rfl, rfl, rfl⟩
      · rw [setD_ne _ e]; exact ⟨rfl, rfl, rfl, rfl, rfl⟩
    obtain ⟨h1, h2, h3, h4, h5⟩ := hst
    simp only [refutesF, List.length_set, nodeB, h1, h2, h3, h4, h5, ih]
/-- a step behind that is not reached plays no part -/
theorem wrong_behind (rows : List RowD) (l : List StepD) (x : StepD) (hw : ∀ i, i < l.length → (l.getD i st0).no < (l.length : Int) ∧ (l.getD i st0).yes < (l.length : Int)) : ∀ (f a : Nat) (dec : List Int), a < l.length →
    wrongF rows (l ++ [x]) f a dec = wrongF rows l f a dec
  | 0, _, _, _ => rfl
  | f + 1, a, dec, ha => by
    have h1 := hw a ha
    have hp : partsB (l.getD a st0) a ((l ++ [x]).length : Nat) dec = partsB (l.getD a st0) a (l.length : Nat) dec := by
      generalize l.getD a st0 = s at h1
      unfold partsB
      have e1 : decide (s.no < (((l ++ [x]).length : Nat) : Int)) = decide (s.no < ((l.length : Nat) : Int)) := by simp; omega
      have e2 : decide (s.yes < (((l ++ [x]).length : Nat) : Int)) = decide (s.yes < ((l.length : Nat) : Int)) := by simp; omega
      rw [e1, e2]
    simp only [wrongF]
    rw [getD_app_left _ _ _ _ ha, hp]
    split
    · rfl
    · split
      · rename_i hpp
        simp only [partsB, Bool.and_eq_true, decide_eq_true_eq] at hpp
        obtain ⟨⟨⟨-, h4, h5⟩, h6, h7⟩, -⟩ := hpp
        rw [wrong_behind rows l x hw f _ _ (by omega), wrong_behind rows l x hw f _ _ (by omega)]
      · rfl
end Go.Proofs.Ytppfdjjhloaopaa
