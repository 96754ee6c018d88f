/- Memory of chapter 15; slices.IndexFunc and ContainsFunc; Formed. Conditions: how the order lies in memory. -/
import Derived.Test.YtnidcoinfmcffaaDoorOpA
import Derived.Test.YtnidcoinfmcffaaDoorOwnR
import Derived.Test.YtnidcoinfmcffaaDoorOwn
import Derived.Test.YtnidcoinfmcffaaDoorBlkB
import Derived.Test.YtnidcoinfmcffaaDoorEffK
import Derived.Test.YtnidcoinfmcffaaDoorRegM
import Derived.Shelf.Abstract
namespace Go.Proofs.YtnidcoinfmcffaaDoor
open Go.RowKit

/-- a slice of records of k cells each -/
def RecIn {α : Type} (f : α → List Value) (d : α) (k : Nat) (c : Rd) (v : Value) (l : List α) : Prop :=
 ∃ a n, v = .slice a l.length n ∧ l.length ≤ n ∧ n ≤ 9223372036854775807 ∧ ∀ i, i < l.length → ∃ b o, a = some ⟨b, o, none⟩ ∧ ∀ j u, (f (l.getD i d))[j]? = some u → c ⟨b, o + i * k + j, none⟩ = some u
section
variable {α : Type} {f : α → List Value} {d : α} {k : Nat}
theorem RecIn.keeps {c c' : Rd} {v : Value} {l : List α} (hk : Keeps c c') (h : RecIn f d k c v l) : RecIn f d k c' v l := by
 obtain ⟨a, n, h1, h2, h3, h4⟩ := h
 exact ⟨a, n, h1, h2, h3, fun i hi => let ⟨b, o, e, hc⟩ := h4 i hi; ⟨b, o, e, fun j u hu => hk _ _ (hc j u hu)⟩⟩
theorem RecIn.below {w W : World} {v : Value} {l : List α} (hb : Below w.heap.size w W) (h : RecIn f d k w.cell? v l) : RecIn f d k W.cell? v l := h.keeps (keeps_of_below hb)
theorem RecIn.nil (c : Rd) : RecIn f d k c (.slice none 0 0) [] := ⟨none, 0, rfl, Nat.le_refl _, by omega, fun i hi => by simp at hi⟩
theorem RecIn.of_own {w : World} {B B' : Nat} {e : TypeId} {v : Value} {l : List α} (h : OwnR w B e k v (l.map f)) (hk : ∀ x, (f x).length = k) (hB : B' ≤ B) : RecIn f d k (frm B' w) v l := by
 rcases h.form with ⟨rfl, e2⟩ | ⟨g, c, cur, rfl, e1, e2, e3, e4⟩
 ·obtain rfl : l = [] := by cases l with | nil => rfl | cons => simp at e2
  exact RecIn.nil _
 ·rw [List.length_map] at e3
  refine ⟨some ⟨g, 0, none⟩, c, by rw [List.length_map], e3, by simpa [maxLen] using e4, fun i hi => ⟨g, 0, rfl, fun j u hu => ?_⟩⟩
  rw [Nat.zero_add]
  have hi' : (l.map f).getD i [] = f (l.getD i d) := by
   rw [List.getD_eq_getElem?_getD, List.getElem?_map, List.getElem?_eq_getElem hi, List.getD_eq_getElem?_getD, List.getElem?_eq_getElem hi]; rfl
  have hj : j < k := by rw [← hk (l.getD i d)]; exact (List.getElem?_eq_some_iff.1 hu).1
  exact frm_pos (by omega) (h.cell i j (by rw [List.length_map]; exact hi) hj (by rw [hi']; exact hu))
theorem RecIn.at {B : Nat} {w : World} {v : Value} {l : List α} (h : RecIn f d k (frm B w) v l) : RecIn f d k w.cell? v l := h.keeps (keeps_frm B w)
end

theorem RecIn.cell {α : Type} {f : α → List Value} {d : α} {k : Nat} {c : Rd} {a : Option Addr} {m n : Nat} {l : List α} (h : RecIn f d k c (.slice a m n) l) {i : Nat} (hi : i < l.length) : ∃ b o, a = some ⟨b, o, none⟩ ∧ ∀ j u, (f (l.getD i d))[j]? = some u → c ⟨b, o + i * k + j, none⟩ = some u := by
 obtain ⟨a', n', e, -, -, h4⟩ := h
 cases e
 exact h4 i hi
def pairC (p : Int × Int) : List Value := [.int .i64 p.1, .int .i64 p.2]
abbrev pairV (p : Int × Int) : Value := .agg #[.int .i64 p.1, .int .i64 p.2]
abbrev PairsIn (c : Rd) (v : Value) (l : List (Int × Int)) : Prop := RecIn pairC (0, 0) 2 c v l
abbrev orderV (n : Int) (v : Value) : Value := .agg #[.int .i64 n, v]
/-- the table of a relation: for each thing the set of what comes before it -/
abbrev setI (R : RelO) (b : Nat) : Int := ((bitsO fun a => R a b : Nat) : Int)
abbrev tabC (R : RelO) : List Value := [.int .i64 (setI R 0), .int .i64 (setI R 1), .int .i64 (setI R 2), .int .i64 (setI R 3), .int .i64 (setI R 4), .int .i64 (setI R 5), .int .i64 (setI R 6), .int .i64 (setI R 7)]
abbrev tabV (R : RelO) : Value := .agg #[.int .i64 (setI R 0), .int .i64 (setI R 1), .int .i64 (setI R 2), .int .i64 (setI R 3), .int .i64 (setI R 4), .int .i64 (setI R 5), .int .i64 (setI R 6), .int .i64 (setI R 7)]
theorem tabC_get (R : RelO) : ∀ b, b < 8 → (tabC R)[b]? = some (.int .i64 (setI R b))
 | 0, _ => rfl
 | 1, _ => rfl
 | 2, _ => rfl
 | 3, _ => rfl
 | 4, _ => rfl
 | 5, _ => rfl
 | 6, _ => rfl
 | 7, _ => rfl
 | n + 8, h => by omega
/-- the relation with another set for one thing -/
def rowO (R : RelO) (b : Nat) (p : Nat → Bool) : RelO := fun x y => if y = b then p x else R x y
theorem tabC_set (R : RelO) (p : Nat → Bool) : ∀ b, b < 8 → (tabC R).set b (.int .i64 ((bitsO p : Nat) : Int)) = tabC (rowO R b p)
 | 0, _ => rfl
 | 1, _ => rfl
 | 2, _ => rfl
 | 3, _ => rfl
 | 4, _ => rfl
 | 5, _ => rfl
 | 6, _ => rfl
 | 7, _ => rfl
 | n + 8, h => by omega
theorem tabC_congr {R S : RelO} (h : ∀ a b, a < 8 → b < 8 → R a b = S a b) : tabC R = tabC S := by
 have e : ∀ b, b < 8 → setI R b = setI S b := fun b hb => by
  have := bits_congr (p := fun a => R a b) (q := fun a => S a b) fun a ha => h a b ha hb
  show ((bitsO _ : Nat) : Int) = _
  rw [this]
 show [_, _, _, _, _, _, _, _] = _
 rw [e 0 (by decide), e 1 (by decide), e 2 (by decide), e 3 (by decide), e 4 (by decide), e 5 (by decide), e 6 (by decide), e 7 (by decide)]
theorem tabV_congr {R S : RelO} (h : ∀ a b, a < 8 → b < 8 → R a b = S a b) : tabV R = tabV S := by
 have := tabC_congr h
 show Value.agg (tabC R).toArray = Value.agg (tabC S).toArray
 rw [this]
theorem set_lt (R : RelO) (b : Nat) : bitsO (fun a => R a b) < 256 := bits_lt _
end Go.Proofs.YtnidcoinfmcffaaDoor
namespace Go.Proofs.YtnidcoinfmcffaaDoor
open Go.RowKit
/-- a call returns a value, and keeps an invariant of the world -/
def RetI (I : World → Prop) (v : Value) (e : Ending) (w' : World) : Prop := e = .returned v ∧ I w'
/-- a function value asks q of the elements of a list, and keeps an invariant of the world -/
def AskI {α : Type} (I : World → Prop) (g : Nat) (lb : Array Value) (V : α → Value) (q : α → Bool) (l : List α) : Prop := ∀ W, I W → ∀ x ∈ l, Calls Tryd.prog g (#[V x] ++ lb) W (RetI I (.bool (q x)))
set_option maxHeartbeats 1000000 in
theorem idx_pairs (I : World → Prop) (g : Nat) (lb : Array Value) (eg : ∀ args w, (callFunc g args).run Tryd.prog w = .ok (.enter g args) w) (q : (Int × Int) → Bool) (l : List (Int × Int)) (v : Value) (w : World) (hv : ∀ W, I W → PairsIn W.cell? v l) (hI0 : I w) (H : AskI I g lb pairV q l) :
  Calls Tryd.prog 85 #[v, .func (.func g) #[] lb] w (RetI I (.int .i64 (idxF q l))) := by
 obtain ⟨a, c, rfl, hlc, hcm, -⟩ := id (hv w hI0)
 have hlI : (l.length : Int) ≤ 9223372036854775807 := by omega
 have hI := hide hI0
 have HV := hide hv
 have H' := hide H
 clear H
 have H := H'
 clear hv hlc hcm hI0
 go_enter Tryd.func85, Tryd.ntmps85
 go_wp2
 go_loopw [8] (fun i wr => ∃ (k : Nat), k ≤ l.length ∧ i = .int .i64 k ∧ Hid ((l.take k).any q = false) ∧ Hid (I wr)) (fun i _ => l.length - (intOf i).toNat)
 case atStart => exact ⟨0, by omega, rfl, rfl, hI⟩
 case round =>
  obtain ⟨k, hk, rfl, HA, hIr⟩ := hrel
  by_cases hlt : k < l.length
  ·have HK1 := hide hlt
   obtain ⟨a', n', e', -, -, hc⟩ := HV.out wr hIr.out
   cases e'
   obtain ⟨b, o, rfl, hck⟩ := hc k hlt
   have HT := hide (any_take_succ (d := (0, 0)) (p := q) hlt HA.out)
   have HN := hide (idxF_found (d := (0, 0)) q l k hlt HA.out)
   have hm := getD_mem l k (d := (0, 0)) hlt
   generalize l.getD k (0, 0) = x at hck HT HN hm
   have c0 := hck 0 _ rfl
   have c1 := hck 1 _ rfl
   rw [Nat.add_zero] at c0
   have HC := hide (H.out wr hIr.out x hm)
   clear hc hck hm
   cases hx : q x
   ·rw [hx] at HC
    have HT' := hide (HT.out hx)
    clear hx
    go_wp2_with fail
    refine HC.out.mono ?_
    rintro e w' ⟨rfl, hI''⟩
    have hI' := hide hI''
    clear hI''
    go_wp2_with fail
    go_roundw
    case rel => exact ⟨k + 1, by have := HK1.out; omega, by go_num, HT', hI'⟩
    case measure => have := HK1.out; simp [intOf]; omega
   ·rw [hx] at HC
    have HN' := hide (HN.out hx)
    clear hx
    go_wp2_with fail
    refine HC.out.mono ?_
    rintro e w' ⟨rfl, hI''⟩
    have hI' := hide hI''
    clear hI''
    go_wp2_with fail
    go_ret
    exact ⟨ret_int HN'.out.symm, hI'.out⟩
  ·go_wp2
   go_ret
   exact ⟨ret_int (idxF_none _ l (any_take_end (by omega) HA.out)).symm, hIr.out⟩
set_option maxHeartbeats 1000000 in
theorem has_pairs (I : World → Prop) (g : Nat) (lb : Array Value) (eg : ∀ args w, (callFunc g args).run Tryd.prog w = .ok (.enter g args) w) (q : (Int × Int) → Bool) (l : List (Int × Int)) (v : Value) (w : World) (hv : ∀ W, I W → PairsIn W.cell? v l) (hI0 : I w) (H : AskI I g lb pairV q l) :
  Calls Tryd.prog 68 #[v, .func (.func g) #[] lb] w (RetI I (.bool (l.any q))) := by
 have HF := hide (idxF_any q l)
 have HH := hide (idx_pairs I g lb eg q l v w hv hI0 H)
 clear H hI0
 go_enter Tryd.func68, Tryd.ntmps68
 go_wp2_with fail
 refine HH.out.mono ?_
 rintro e w' ⟨rfl, hI''⟩
 have hI' := hide hI''
 clear hI''
 go_wp2_with fail
 go_ret
 exact ⟨ret_bool HF.out, hI'.out⟩
end Go.Proofs.YtnidcoinfmcffaaDoor
namespace Go.Proofs.YtnidcoinfmcffaaDoor
open Go.RowKit
set_option maxRecDepth 100000 in
theorem formedc_any (p : Int × Int) (n : Int) (B : Nat) (w : World) (h0 : w.cell? ⟨B, 0, none⟩ = some (.int .i64 n)) : Calls Tryd.prog 69 #[pairV p, .pointer (some ⟨B, 0, none⟩)] w (Ret (.bool (!pairOkO n p)) w) := by
 obtain ⟨a, b⟩ := p
 have h0' := fun o => keep (bal w o) h0
 have HP : Hid (pairOkO n (a, b) = decide (0 ≤ a ∧ a < n ∧ 0 ≤ b ∧ b < n ∧ a ≠ b)) := hide rfl
 generalize pairOkO n (a, b) = P at HP ⊢
 obtain ⟨mn, hmn⟩ : ∃ m, m = min a b := ⟨_, rfl⟩
 obtain ⟨mx, hmx⟩ : ∃ m, m = max a b := ⟨_, rfl⟩
 have e1 : (if b < a then b else a) = mn := by rw [hmn]; split <;> omega
 have e2 : (if a < b then b else a) = mx := by rw [hmx]; split <;> omega
 by_cases h1 : mn < 0
 ·have HR : Hid (P = false) := hide (by rw [HP.out]; exact decide_eq_false (by omega))
  clear hmn hmx
  go_enter Tryd.func69, Tryd.ntmps69
  go_wp2_with fail
  go_ret
  exact ⟨by rw [HR.out]; rfl, by first | exact Below.refl _ _ | exact bal w _⟩
 ·by_cases h2 : mx < n
  ·by_cases h3 : a = b
   ·have h3' : (a == b) = true := by simpa using h3
    have HR : Hid (P = false) := hide (by rw [HP.out]; exact decide_eq_false (by omega))
    have h1d : decide (mn < 0) = false := decide_eq_false h1
    have h2d : decide (n ≤ mx) = false := decide_eq_false (by omega)
    clear hmn hmx h3
    go_enter Tryd.func69, Tryd.ntmps69
    go_wp2_with fail
    go_ret
    exact ⟨by rw [HR.out]; rfl, by first | exact Below.refl _ _ | exact bal w _⟩
   ·have h3' : (a == b) = false := by simpa using h3
    have HR : Hid (P = true) := hide (by rw [HP.out]; exact decide_eq_true (by omega))
    have h1d : decide (mn < 0) = false := decide_eq_false h1
    have h2d : decide (n ≤ mx) = false := decide_eq_false (by omega)
    clear hmn hmx h3
    go_enter Tryd.func69, Tryd.ntmps69
    go_wp2_with fail
    go_ret
    exact ⟨by rw [HR.out]; rfl, by first | exact Below.refl _ _ | exact bal w _⟩
  ·have HR : Hid (P = false) := hide (by rw [HP.out]; exact decide_eq_false (by omega))
   have h1d : decide (mn < 0) = false := decide_eq_false h1
   have h2d : n ≤ mx := by omega
   clear hmn hmx
   go_enter Tryd.func69, Tryd.ntmps69
   go_wp2_with fail
   go_ret
   exact ⟨by rw [HR.out]; rfl, by first | exact Below.refl _ _ | exact bal w _⟩
theorem any_not {α : Type} (p : α → Bool) (l : List α) : (l.any fun x => !p x) = !l.all p := by
 induction l with
 | nil => rfl
 | cons x t ih => simp [ih, Bool.not_and]
set_option maxRecDepth 100000 in
theorem formed_any (o : OrderD) (pv : Value) (w : World) (hp : PairsIn w.cell? pv o.pairs) : Calls Tryd.prog 33 #[orderV o.n pv] w (Ret (.bool (formedO o)) w) := by
 obtain ⟨pa, pm, rfl, hp1, hp2, -⟩ := id hp
 have hpl : (o.pairs.length : Int) ≤ 9223372036854775807 := by omega
 have HPI := hide hp
 have HF : Hid (formedO o = (decide (0 ≤ o.n ∧ o.n ≤ 8) && decide (o.pairs.length ≤ 28) && o.pairs.all (pairOkO o.n))) := hide rfl
 generalize formedO o = F at HF ⊢
 clear hp hp1 hp2
 by_cases h1 : o.n < 0
 ·have HR : Hid (F = false) := hide (by rw [HF.out, decide_eq_false (by omega : ¬ (0 ≤ o.n ∧ o.n ≤ 8))]; rfl)
  go_enter Tryd.func33, Tryd.ntmps33
  go_wp2_with fail
  go_ret
  exact ⟨by rw [HR.out]; rfl, bal w _⟩
 ·have h1d : decide (o.n < 0) = false := decide_eq_false h1
  by_cases h2 : 8 < o.n
  ·have HR : Hid (F = false) := hide (by rw [HF.out, decide_eq_false (by omega : ¬ (0 ≤ o.n ∧ o.n ≤ 8))]; rfl)
   go_enter Tryd.func33, Tryd.ntmps33
   go_wp2_with fail
   go_ret
   exact ⟨by rw [HR.out]; rfl, bal w _⟩
  ·have h2d : decide (8 < o.n) = false := decide_eq_false h2
   by_cases h3 : (28 : Int) < o.pairs.length
   ·have HR : Hid (F = false) := hide (by rw [HF.out, decide_eq_false (by omega : ¬ o.pairs.length ≤ 28)]; simp)
    go_enter Tryd.func33, Tryd.ntmps33
    go_wp2_with fail
    go_ret
    exact ⟨by rw [HR.out]; rfl, bal w _⟩
   ·have h3d : decide ((28 : Int) < o.pairs.length) = false := decide_eq_false h3
    have HR : Hid (F = o.pairs.all (pairOkO o.n)) := hide (by rw [HF.out, decide_eq_true (by omega : 0 ≤ o.n ∧ o.n ≤ 8), decide_eq_true (by omega : o.pairs.length ≤ 28)]; rfl)
    clear HF
    go_enter Tryd.func33, Tryd.ntmps33
    go_wp2_with fail
    generalize hX1 : World.alloc w _ = X1
    have zX1 : X1.heap.size = w.heap.size + 1 := by rw [← hX1]; simp
    have bX1 : Below w.heap.size w X1 := by rw [← hX1]; exact bal w _
    have bO : Blk X1 (w.heap.size) [.int .i64 o.n, .slice pa o.pairs.length pm] 25 := by rw [← hX1]; exact Blk.newA w _ (by first | rfl | simp)
    have Xb := bX1
    have Xz := zX1
    clear hX1 zX1 bX1
    have c0 := bO.cell 0 rfl
    have HA : AskI (fun W => Below X1.heap.size X1 W) 69 #[.pointer (some ⟨w.heap.size, 0, none⟩)] pairV (fun p => !pairOkO o.n p) o.pairs := fun W hW p _ => (formedc_any p o.n w.heap.size W (keep hW c0)).mono fun e w' ⟨he, hb⟩ => ⟨he, below2 hW hb⟩
    have HH := hide (has_pairs (fun W => Below X1.heap.size X1 W) 69 #[.pointer (some ⟨w.heap.size, 0, none⟩)] (Go.Proofs.enters_of Tryd.func69 (by kernel_rfl) rfl) (fun p => !pairOkO o.n p) o.pairs _ X1 (fun W hW => (RecIn.below Xb HPI.out).below hW) (Below.refl _ _) HA)
    rw [any_not] at HH
    clear HA
    refine HH.out.mono ?_
    rintro e w1 ⟨rfl, hb⟩
    have HB := hide (below2 Xb hb)
    clear hb
    go_wp2_with fail
    go_ret
    exact ⟨by rw [HR.out]; simp, HB.out⟩
end Go.Proofs.YtnidcoinfmcffaaDoor
