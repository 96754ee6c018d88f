/- Plain words: how package proof keeps what is decided, and its sums. No condition. -/
import Derived.Test.YtppfdjjhloaopaaPmodN
namespace Go.Proofs.Ytppfdjjhloaopaa
open Go.RowKit

/-- what is decided about a thing, as package proof says it -/
def codeD (x : Int) : Int := if x = 1 then 1 else if x < 0 then 0 else -1
def encD (dec : List Int) : List Int := (List.range 12).map fun i => if i < dec.length then codeD (dec.getD i 0) else 0
theorem encD_len (dec : List Int) : (encD dec).length = 12 := by simp [encD]
theorem encD_get {dec : List Int} {i : Nat} (h : i < 12) : (encD dec).getD i 0 = if i < dec.length then codeD (dec.getD i 0) else 0 := by
  simp [encD, List.getD_eq_getElem?_getD, List.getElem?_map, List.getElem?_range h]
theorem encD_set {dec : List Int} {v : Nat} (hv : v < dec.length) (x : Int) : encD (dec.set v x) = (encD dec).set v (codeD x) := by
  refine ext_getD (by simp [encD_len]) fun k hk => ?_
  have hk : k < 12 := by simpa [encD_len] using hk
  rw [encD_get hk, List.length_set]
  by_cases e : k = v
  · subst e
    rw [if_pos hv, setD_eq dec hv, setD_eq (encD dec) (by rw [encD_len]; omega)]
  · rw [setD_ne _ e, setD_ne _ e, encD_get hk]
theorem encD_open {dec : List Int} {v : Nat} (hv : v < dec.length) (hl : dec.length ≤ 12) : decide ((encD dec).getD v 0 = 0) = decide (dec.getD v 0 < 0) := by
  rw [encD_get (by omega), if_pos hv]
  generalize dec.getD v 0 = x
  unfold codeD
  by_cases h1 : x = 1
  · subst h1; simp
  · by_cases h2 : x < 0
    · simp [h1, h2]
    · simp [h1, h2]
theorem encD_none (n : Nat) : encD (List.replicate n (-1)) = List.replicate 12 0 := by
  refine ext_getD (by simp [encD_len]) fun k hk => ?_
  have hk : k < 12 := by simpa [encD_len] using hk
  rw [encD_get hk]
  have e : (List.replicate 12 (0 : Int)).getD k 0 = 0 := by
    rw [List.getD_eq_getElem?_getD, List.getElem?_replicate, if_pos hk]; rfl
  rw [e, List.length_replicate]
  by_cases h : k < n
  · rw [if_pos h, List.getD_eq_getElem?_getD, List.getElem?_replicate, if_pos h]; rfl
  · rw [if_neg h]
/-- the sums behind i weights, of which the first k things have the next one, too -/
def sumsP (rows : List RowD) (ws : List (Int × Int)) (n i k : Nat) : List Int := (List.range 12).map fun j => if j < n then sumW rows ws j (if j < k then i + 1 else i) else 0
theorem sumsP_len (rows : List RowD) (ws : List (Int × Int)) (n i k : Nat) : (sumsP rows ws n i k).length = 12 := by simp [sumsP]
theorem sumsP_get {rows : List RowD} {ws : List (Int × Int)} {n i k j : Nat} (h : j < 12) : (sumsP rows ws n i k).getD j 0 = if j < n then sumW rows ws j (if j < k then i + 1 else i) else 0 := by
  simp [sumsP, List.getD_eq_getElem?_getD, List.getElem?_map, List.getElem?_range h]
theorem sumsP_zero (rows : List RowD) (ws : List (Int × Int)) (n : Nat) : sumsP rows ws n 0 0 = List.replicate 12 0 := by
  refine ext_getD (by simp [sumsP_len]) fun k hk => ?_
  have hk : k < 12 := by simpa [sumsP_len] using hk
  rw [sumsP_get hk]
  have e : (List.replicate 12 (0 : Int)).getD k 0 = 0 := by
    rw [List.getD_eq_getElem?_getD, List.getElem?_replicate, if_pos hk]; rfl
  rw [e]; simp [sumW]
theorem sumsP_full (rows : List RowD) (ws : List (Int × Int)) (n i : Nat) : sumsP rows ws n i n = sumsP rows ws n (i + 1) 0 := by
  refine ext_getD (by simp [sumsP_len]) fun k hk => ?_
  have hk : k < 12 := by simpa [sumsP_len] using hk
  rw [sumsP_get hk, sumsP_get hk]
  by_cases h : k < n
  · rw [if_pos h, if_pos h, if_pos h, if_neg (by omega)]
  · rw [if_neg h, if_neg h]
theorem sumsP_set {rows : List RowD} {ws : List (Int × Int)} {n i k : Nat} (hk : k < n) :
    (sumsP rows ws n i k).set k ((sumsP rows ws n i k).getD k 0 + (ws.getD i wt0).2 * (rows.getD (ws.getD i wt0).1.toNat row0).coef.getD k 0) = sumsP rows ws n i (k + 1) := by
  refine ext_getD (by simp [sumsP_len]) fun j hj => ?_
  have hj' : j < 12 := by simpa [sumsP_len] using hj
  clear hj
  rw [sumsP_get hj']
  by_cases e : j = k
  · subst e
    rw [setD_eq _ (by rw [sumsP_len]; omega), sumsP_get hj', if_pos hk, if_pos hk, if_neg (show ¬ j < j by omega), if_pos (show j < j + 1 by omega)]; rfl
  · rw [setD_ne _ e, sumsP_get hj']
    by_cases h : j < n
    · rw [if_pos h, if_pos h]
      congr 1
      by_cases h2 : j < k
      · rw [if_pos h2, if_pos (by omega)]
      · rw [if_neg h2, if_neg (by omega)]
    · rw [if_neg h, if_neg h]
/-- the least sum of the first k things, as package proof adds it -/
def addP (d sums : List Int) : Nat → Int
  | 0 => 0
  | k + 1 => addP d sums k + (if d.getD k 0 = 1 then sums.getD k 0 else if d.getD k 0 = 0 then (if sums.getD k 0 < 0 then sums.getD k 0 else 0) else 0)
theorem addP_min (rows : List RowD) (ws : List (Int × Int)) (dec : List Int) (hl : dec.length ≤ 12) : ∀ k, k ≤ 12 → addP (encD dec) (sumsP rows ws dec.length ws.length 0) k = minK rows ws dec (min k dec.length)
  | 0, _ => by simp [addP, minK]
  | k + 1, hk => by
    simp only [addP]
    rw [addP_min rows ws dec hl k (by omega), encD_get (by omega), sumsP_get (by omega)]
    by_cases h : k < dec.length
    · rw [if_pos h, if_pos h, if_neg (show ¬ k < 0 by omega), show min (k + 1) dec.length = k + 1 by omega, show min k dec.length = k by omega]
      simp only [minK]
      congr 1
      generalize dec.getD k 0 = x
      generalize sumW rows ws k ws.length = y
      unfold codeD takes
      by_cases h1 : x = 1
      · subst h1; simp
      · by_cases h2 : x < 0
        · by_cases h3 : y < 0 <;> simp [h1, h2, h3]
        · simp [h1, h2]
    · rw [if_neg h, if_neg h, show min (k + 1) dec.length = dec.length by omega, show min k dec.length = dec.length by omega]; simp
end Go.Proofs.Ytppfdjjhloaopaa
