/- cmp.Compare, slices.Compare, cmp.Or; Antichain; slices.Clone. Conditions: how lists and orders lie in memory. -/
import Derived.Test.YtnidcoinfmcffaaDoorOsK
import Derived.Test.YtnidcoinfmcffaaDoorOsI
namespace Go.Proofs.YtnidcoinfmcffaaDoor
open Go.RowKit
def cmpI (x y : Int) : Int := if x < y then -1 else if y < x then 1 else 0
def cmpL : List Int → List Int → Int
 | [], [] => 0
 | [], _ :: _ => -1
 | _ :: _, [] => 1
 | x :: a, y :: b => if cmpI x y = 0 then cmpL a b else cmpI x y
theorem cnan_any (x : Int) (w : World) : Calls Tryd.prog 83 #[.int .i64 x] w fun e w' => e = .returned (.bool false) ∧ w' = w := by
 go_enter Tryd.func83, Tryd.ntmps83
 go_wp2
 go_ret
 exact ⟨by simp, rfl⟩
set_option maxRecDepth 100000 in
set_option maxHeartbeats 1000000 in
theorem ccmp_any (x y : Int) (w : World) : Calls Tryd.prog 63 #[.int .i64 x, .int .i64 y] w fun e w' => e = .returned (.int .i64 (cmpI x y)) ∧ w' = w := by
 have HN := hide (fun z => cnan_any z w)
 by_cases hl : x < y
 ·have HR : Hid (cmpI x y = -1) := hide (by unfold cmpI; rw [if_pos hl])
  go_enter Tryd.func63, Tryd.ntmps63
  go_wp2_with fail
  refine (HN.out x).mono ?_
  rintro e w1 ⟨rfl, rfl⟩
  go_wp2_with fail
  refine (HN.out y).mono ?_
  rintro e w1 ⟨rfl, rfl⟩
  go_wp2_with fail
  go_ret
  exact ⟨by rw [HR.out]; rfl, rfl⟩
 ·by_cases hg : y < x
  ·have HR : Hid (cmpI x y = 1) := hide (by unfold cmpI; rw [if_neg hl, if_pos hg])
   go_enter Tryd.func63, Tryd.ntmps63
   go_wp2_with fail
   refine (HN.out x).mono ?_
   rintro e w1 ⟨rfl, rfl⟩
   go_wp2_with fail
   refine (HN.out y).mono ?_
   rintro e w1 ⟨rfl, rfl⟩
   go_wp2_with fail
   go_ret
   exact ⟨by rw [HR.out]; rfl, rfl⟩
  ·have HR : Hid (cmpI x y = 0) := hide (by unfold cmpI; rw [if_neg hl, if_neg hg])
   go_enter Tryd.func63, Tryd.ntmps63
   go_wp2_with fail
   refine (HN.out x).mono ?_
   rintro e w1 ⟨rfl, rfl⟩
   go_wp2_with fail
   refine (HN.out y).mono ?_
   rintro e w1 ⟨rfl, rfl⟩
   go_wp2_with fail
   go_ret
   exact ⟨by rw [HR.out]; rfl, rfl⟩
theorem drop_getD {l : List Int} {k : Nat} (h : k < l.length) : l.drop k = l.getD k 0 :: l.drop (k + 1) := by
 rw [List.drop_eq_getElem_cons h, List.getD_eq_getElem?_getD, List.getElem?_eq_getElem h]; rfl
theorem cmpL_step {a b : List Int} {k : Nat} (h1 : k < a.length) (h2 : k < b.length) : cmpL (a.drop k) (b.drop k) = if cmpI (a.getD k 0) (b.getD k 0) = 0 then cmpL (a.drop (k + 1)) (b.drop (k + 1)) else cmpI (a.getD k 0) (b.getD k 0) := by
 rw [drop_getD h1, drop_getD h2]; rfl
theorem cmpL_long {a b : List Int} {k : Nat} (h1 : k < a.length) (h2 : b.length ≤ k) : cmpL (a.drop k) (b.drop k) = 1 := by
 rw [drop_getD h1, List.drop_of_length_le h2]; rfl
theorem cmpL_end {a b : List Int} : cmpL (a.drop a.length) (b.drop a.length) = if a.length < b.length then -1 else 0 := by
 rw [List.drop_length]
 by_cases h : a.length < b.length
 ·rw [if_pos h, drop_getD h]; rfl
 ·rw [if_neg h, List.drop_of_length_le (by omega)]; rfl
set_option maxRecDepth 100000 in
set_option maxHeartbeats 1000000 in
theorem scmp_any (a b : List Int) (av bv : Value) (w : World) (ha : IntsIn w.cell? av a) (hb : IntsIn w.cell? bv b) : Calls Tryd.prog 64 #[av, bv] w fun e w' => e = .returned (.int .i64 (cmpL a b)) ∧ w' = w := by
 obtain ⟨aa, ac, rfl, hac, hacm, hax⟩ := ha
 obtain ⟨ba, bc, rfl, hbc, hbcm, hbx⟩ := hb
 have haI : (a.length : Int) ≤ 9223372036854775807 := by omega
 have hbI : (b.length : Int) ≤ 9223372036854775807 := by omega
 have HA := hide hax
 have HB := hide hbx
 have HS := hide (fun k h1 h2 => cmpL_step (a := a) (b := b) (k := k) h1 h2)
 have HG := hide (fun k h1 h2 => cmpL_long (a := a) (b := b) (k := k) h1 h2)
 have HE := hide (cmpL_end (a := a) (b := b))
 have HC := hide (fun x y => ccmp_any x y w)
 have H0 : Hid (cmpL (a.drop 0) (b.drop 0) = cmpL a b) := hide rfl
 generalize cmpL = CL at *
 clear hax hbx hac hacm hbc hbcm
 go_enter Tryd.func64, Tryd.ntmps64
 go_wp2
 go_loopw [11] (fun i wr => ∃ (k : Nat), k ≤ a.length ∧ k ≤ b.length ∧ i = .int .i64 k ∧ Hid (CL (a.drop k) (b.drop k) = CL a b) ∧ wr = w) (fun i _ => a.length - (intOf i).toNat)
 case atStart => exact ⟨0, by omega, by omega, rfl, H0, rfl⟩
 case round =>
  obtain ⟨k, hka, hkb, rfl, HK, rfl⟩ := hrel
  by_cases hla : k < a.length
  ·obtain ⟨b1, o1, rfl, c1⟩ := HA.out k hla
   have HLA := hide hla
   have hlaI : (k : Int) < a.length := by omega
   by_cases hlb : k < b.length
   ·have hlbI : (k : Int) < b.length := by omega
    obtain ⟨b2, o2, rfl, c2⟩ := HB.out k hlb
    have HLB := hide hlb
    have HS1 := hide (HS.out k hla hlb)
    have hc := HC.out (a.getD k 0) (b.getD k 0)
    generalize a.getD k 0 = x at *
    generalize b.getD k 0 = y at *
    generalize cmpI x y = q at *
    have HC1 := hide hc
    clear hc
    by_cases h0 : q = 0
    ·subst h0
     go_wp2_with fail
     refine HC1.out.mono ?_
     rintro e w1 ⟨rfl, rfl⟩
     go_wp2_with fail
     go_roundw
     case rel => exact ⟨k + 1, by have := HLA.out; omega, by have := HLB.out; omega, by go_num, hide (by have h := HS1.out; rw [if_pos (by trivial)] at h; rw [← h]; exact HK.out), by first | trivial | rfl⟩
     case measure => have := HLA.out; simp [intOf]; omega
    ·have hb0 : (q == 0) = false := by simpa using h0
     have HQ := hide h0
     go_wp2_with fail
     refine HC1.out.mono ?_
     rintro e w1 ⟨rfl, rfl⟩
     go_wp2_with fail
     go_ret
     exact ⟨by have h := HS1.out; rw [if_neg HQ.out] at h; rw [← h, HK.out]; rfl, rfl⟩
   ·have hgeI : (b.length : Int) ≤ k := by omega
    have HG1 := hide (HG.out k hla (by omega))
    go_wp2_with fail
    go_ret
    exact ⟨by rw [← HK.out, HG1.out]; rfl, rfl⟩
  ·obtain rfl : k = a.length := by omega
   have hE := HE.out
   by_cases hlb : a.length < b.length
   ·have hlbI : (a.length : Int) < b.length := by omega
    have HR := hide hE
    rw [if_pos hlb] at hE
    have HR := hide hE
    clear hE
    go_wp2_with fail
    go_ret
    exact ⟨by rw [← HK.out, HR.out]; rfl, rfl⟩
   ·have hlbI : ¬ (a.length : Int) < b.length := by omega
    rw [if_neg hlb] at hE
    have HR := hide hE
    clear hE
    go_wp2_with fail
    go_ret
    exact ⟨by rw [← HK.out, HR.out]; rfl, rfl⟩
end Go.Proofs.YtnidcoinfmcffaaDoor
namespace Go.Proofs.YtnidcoinfmcffaaDoor
open Go.RowKit
def orL : List Int → Int
 | [] => 0
 | x :: l => if x = 0 then orL l else x
theorem orL_step {a : List Int} {k : Nat} (h1 : k < a.length) : orL (a.drop k) = if a.getD k 0 = 0 then orL (a.drop (k + 1)) else a.getD k 0 := by
 rw [drop_getD h1]; rfl
theorem orL_end {a : List Int} : orL (a.drop a.length) = 0 := by
 rw [List.drop_length]; rfl
set_option maxRecDepth 100000 in
set_option maxHeartbeats 1000000 in
theorem cor_any (a : List Int) (av : Value) (w : World) (ha : IntsIn w.cell? av a) : Calls Tryd.prog 62 #[av] w fun e w' => e = .returned (.int .i64 (orL a)) ∧ w' = w := by
 obtain ⟨aa, ac, rfl, hac, hacm, hax⟩ := ha
 have haI : (a.length : Int) ≤ 9223372036854775807 := by omega
 have HA := hide hax
 have HS := hide (fun k h1 => orL_step (a := a) (k := k) h1)
 have HE := hide (orL_end (a := a))
 have H0 : Hid (orL (a.drop 0) = orL a) := hide rfl
 generalize orL = CL at *
 clear hax hac hacm
 go_enter Tryd.func62, Tryd.ntmps62
 go_wp2
 go_loopw [8] (fun i wr => ∃ (k : Nat), k ≤ a.length ∧ i = .int .i64 k ∧ Hid (CL (a.drop k) = CL a) ∧ wr = w) (fun i _ => a.length - (intOf i).toNat)
 case atStart => exact ⟨0, by omega, rfl, H0, rfl⟩
 case round =>
  obtain ⟨k, hka, rfl, HK, rfl⟩ := hrel
  by_cases hla : k < a.length
  ·obtain ⟨b1, o1, rfl, c1⟩ := HA.out k hla
   have HLA := hide hla
   have hlaI : (k : Int) < a.length := by omega
   have HS1 := hide (HS.out k hla)
   generalize a.getD k 0 = q at *
   by_cases h0 : q = 0
   ·subst h0
    go_wp2_with fail
    go_roundw
    case rel => exact ⟨k + 1, by have := HLA.out; omega, by go_num, hide (by have h := HS1.out; rw [if_pos (by trivial)] at h; rw [← h]; exact HK.out), by first | trivial | rfl⟩
    case measure => have := HLA.out; simp [intOf]; omega
   ·have hb0 : (q == 0) = false := by simpa using h0
    have HQ := hide h0
    go_wp2_with fail
    go_ret
    exact ⟨by have h := HS1.out; rw [if_neg HQ.out] at h; rw [← HK.out, h]; rfl, rfl⟩
  ·obtain rfl : k = a.length := by omega
   have HR := HE
   go_wp2_with fail
   go_ret
   exact ⟨by rw [← HK.out, HR.out]; rfl, rfl⟩
/-- what stands below the things of a set, as bits -/
def belO (R : RelO) : List Nat → Nat
 | [] => 0
 | x :: l => bitsO (fun a => R a x) ||| belO R l
/-- the better one of two antichains -/
def betterO (b l : List Int) : Bool := decide (orL [cmpI b.length l.length, cmpL l b] < 0)
/-- the best antichain among the first k sets -/
def antiK (R : RelO) : Nat → List Nat
 | 0 => []
 | S + 1 => if ((belO R (thingsO S)) &&& S == 0) && betterO (natsO (antiK R S)) (natsO (thingsO S)) then thingsO S else antiK R S
def antiO (n : Nat) (R : RelO) : List Nat := antiK R (2 ^ n)
end Go.Proofs.YtnidcoinfmcffaaDoor
namespace Go.Proofs.YtnidcoinfmcffaaDoor
open Go.RowKit
theorem belO_lt (R : RelO) : ∀ l : List Nat, belO R l < 256
 | [] => Nat.zero_lt_succ _
 | _ :: l => Nat.or_lt_two_pow (n := 8) (bits_lt _) (belO_lt R l)
theorem belO_snoc (R : RelO) (x : Nat) : ∀ l : List Nat, belO R (l ++ [x]) = belO R l ||| bitsO (fun a => R a x)
 | [] => by show bitsO _ ||| 0 = 0 ||| bitsO _; rw [Nat.or_zero, Nat.zero_or]
 | y :: l => by
  show bitsO _ ||| belO R (l ++ [x]) = (bitsO _ ||| belO R l) ||| bitsO _
  rw [belO_snoc R x l, Nat.or_assoc]
theorem belO_take {R : RelO} {l : List Nat} {j : Nat} (h : j < l.length) : belO R (l.take (j + 1)) = belO R (l.take j) ||| bitsO (fun a => R a (l.getD j 0)) := by
 rw [List.take_add_one, List.getElem?_eq_getElem h, Option.toList_some, belO_snoc, List.getD_eq_getElem?_getD, List.getElem?_eq_getElem h]; rfl
theorem things_lt {S x : Nat} (h : x ∈ thingsO S) : x < 8 := List.mem_range.1 (List.mem_filter.1 h).1
theorem things_get {S j : Nat} (h : j < (thingsO S).length) : (thingsO S).getD j 0 < 8 ∧ (natsO (thingsO S)).getD j 0 = (((thingsO S).getD j 0 : Nat) : Int) := by
 rw [List.getD_eq_getElem?_getD, List.getElem?_eq_getElem h]
 refine ⟨things_lt (List.getElem_mem h), ?_⟩
 unfold natsO
 rw [List.getD_eq_getElem?_getD, List.getElem?_map, List.getElem?_eq_getElem h]; rfl
theorem ints_later {B : Nat} {w W : World} {v : Value} {l : List Int} (h : IntsIn (frm B w) v l) (hb : Below w.heap.size w W) : IntsIn (frm B W) v l :=
 h.keeps (keeps_frm_later fun k _ hk => hb.block k hk)
theorem antichain_no (o : OrderD) (pv : Value) (w : World) (hp : PairsIn w.cell? pv o.pairs) (hv : validO o = false) : Calls Tryd.prog 30 #[orderV o.n pv] w (Ret (.tuple #[.slice none 0 0, .int .i64 150]) w) := by
 obtain ⟨on, ps⟩ := o
 obtain ⟨pa, pm, rfl, -, -, -⟩ := id hp
 have HR := hide (fun W (hb : Below w.heap.size w W) => by
  have h := read_any ⟨on, ps⟩ (.slice pa ps.length pm) W (RecIn.below hb hp)
  rw [hv] at h
  exact h)
 generalize readO ⟨on, ps⟩ = R at *
 clear hp hv
 go_enter Tryd.func30, Tryd.ntmps30
 go_wp2_with fail
 generalize hX1 : World.alloc w _ = X1
 have zX1 : X1.heap.size = w.heap.size + 1 := by rw [← hX1]; simp
 have bX1 : Below w.heap.size w X1 := by rw [← hX1]; exact bal w _
 have bO : Blk X1 (w.heap.size) [.int .i64 on, .slice pa ps.length pm] 25 := by rw [← hX1]; exact Blk.newA w _ (by first | rfl | simp)
 have Xb := bX1
 have Xz := zX1
 clear hX1 zX1 bX1
 have c0 := bO.cell 0 rfl
 have c1 := bO.cell 1 rfl
 refine (HR.out _ Xb).mono ?_
 rintro e w1 ⟨rfl, hb⟩
 have hw := below2 Xb hb
 clear c0 c1 bO hb Xb Xz
 go_wp2_with fail
 go_ret2
 exact ⟨rfl, below2 hw (bal _ _)⟩
set_option maxRecDepth 100000 in
set_option maxHeartbeats 2000000 in
theorem antichain_yes (n : Nat) (ps : List (Int × Int)) (pv : Value) (w : World) (hGl : Glob w) (hp : PairsIn w.cell? pv ps) (hv : validO ⟨n, ps⟩ = true) : Calls Tryd.prog 30 #[orderV n pv] w (IntsEQ (natsO (antiO n (beforeO ⟨n, ps⟩))) w) := by
 obtain ⟨pa, pm, rfl, -, -, -⟩ := id hp
 have hn8 : n ≤ 8 := by
  have hf : formedO ⟨(n : Int), ps⟩ = true := by unfold validO at hv; rw [Bool.and_eq_true] at hv; exact hv.1
  have := (formed_n hf).1.2
  simp only at this
  omega
 have HPO := hide (show PoO n (beforeO ⟨(n : Int), ps⟩) from before_po hv)
 have HR := hide (fun W (hb : Below w.heap.size w W) => by
  have h := read_any ⟨(n : Int), ps⟩ (.slice pa ps.length pm) W (RecIn.below hb hp)
  rw [hv, show readO ⟨(n : Int), ps⟩ = beforeO ⟨(n : Int), ps⟩ by
   have hf : formedO ⟨(n : Int), ps⟩ = true := by unfold validO at hv; rw [Bool.and_eq_true] at hv; exact hv.1
   unfold readO; rw [if_pos hf]] at h
  exact h)
 generalize beforeO ⟨(n : Int), ps⟩ = R at *
 clear hp hv
 have HT := hide (fun S (h : S < 256) W (hg : Glob W) => things_any S h W hg)
 have HGL : Hid (∀ W, Below w.heap.size w W → Glob W) := hide (fun W hb => hGl.later hb)
 clear hGl
 have h2n := pow_nat8 hn8
 obtain ⟨T, hT⟩ : ∃ T : Nat, 2 ^ n = T := ⟨_, rfl⟩
 have hwp : IntKind.i64.wrap (2 ^ n) = (T : Int) := by rw [← hT]; exact wrap_pow hn8
 have hwp6 : wrap64 (2 ^ n) = (T : Int) := by rw [← hT]; exact wrapw hn8
 rw [hT] at h2n
 have HA : Hid (antiO n R = antiK R T) := hide (by unfold antiO; rw [hT])
 clear hT
 go_enter Tryd.func30, Tryd.ntmps30
 go_wp2_with fail
 generalize hX1 : World.alloc w _ = X1
 have zX1 : X1.heap.size = w.heap.size + 1 := by rw [← hX1]; simp
 have bX1 : Below w.heap.size w X1 := by rw [← hX1]; exact bal w _
 have bO : Blk X1 (w.heap.size) [.int .i64 n, .slice pa ps.length pm] 25 := by rw [← hX1]; exact Blk.newA w _ (by first | rfl | simp)
 have Xb := bX1
 have Xz := zX1
 clear hX1 zX1 bX1
 have c0 := bO.cell 0 rfl
 have c1 := bO.cell 1 rfl
 refine (HR.out _ Xb).mono ?_
 rintro e w1 ⟨rfl, hb⟩
 have hw := below2 Xb hb
 replace bO := bO.later hb
 clear c0 c1 hb Xb Xz
 go_upto_region 2 with (fail)
 generalize hY1 : World.alloc w1 _ = Y1
 have zY1 : Y1.heap.size = w1.heap.size + 1 := by rw [← hY1]; simp
 have bY1 : Below w1.heap.size w1 Y1 := by rw [← hY1]; exact bal w1 _
 have bT : Blk Y1 (w1.heap.size) (tabC R) 65 := by rw [← hY1]; exact Blk.newA w1 _ (by first | rfl | simp)
 have Yb := bY1
 have Yz := zY1
 clear hY1 zY1 bY1
 replace bO := bO.later Yb
 have hw2 := below2 hw Yb
 have o0 := bO.cell 0 rfl
 clear Yb Yz hw
 go_wp2_with fail
 have HBO := hide bO
 have HBT := hide bT
 have HW2 := hide hw2
 have HAS : Hid (∀ S, antiK R (S + 1) = if ((belO R (thingsO S)) &&& S == 0) && betterO (natsO (antiK R S)) (natsO (thingsO S)) then thingsO S else antiK R S) := hide (fun _ => rfl)
 have HA0 : Hid (antiK R 0 = []) := hide rfl
 have HAL : Hid (∀ S, S ≤ 256 → (antiK R S).length ≤ 8) := hide (fun S _ => by
  induction S with
  | zero => exact Nat.zero_le _
  | succ S ih =>
   unfold antiK
   split
   ·exact things_len S
   ·exact ih (by omega))
 generalize antiK R = AK at *
 clear bO bT o0 hw2
 go_loopw [6, 22] (fun bv i wr => ∃ k : Nat, k ≤ T ∧ i = .int .i64 k ∧ IntsIn (frm w.heap.size wr) bv (natsO (AK k)) ∧ Below Y1.heap.size Y1 wr) (fun _ i _ => T - (intOf i).toNat)
 case atStart => exact ⟨0, by omega, rfl, by rw [HA0.out]; exact IntsIn.nil _, Below.refl _ _⟩
 case round =>
  obtain ⟨k, hk, rfl, hbv, hwr⟩ := hrel
  obtain ⟨ba, bc, rfl, hb1, hb2, hb3⟩ := id hbv
  have hbl : (natsO (AK k)).length = (AK k).length := by unfold natsO; rw [List.length_map]
  have hb8 := HAL.out k (by omega)
  by_cases hlt : k < T
  ·have hltI : (k : Int) < T := by omega
   have HK := hide hlt
   have hk8 : k < 256 := by omega
   have HT1 := hide (HT.out k hk8 wr (HGL.out _ (below2 HW2.out hwr)))
   have HBV := hide hbv
   have HWR := hide hwr
   rw [hbl] at hb1 ⊢
   clear hbv hwr hb1 hb2 hb3
   go_wp2_with fail
   refine HT1.out.mono ?_
   rintro e w2 ⟨lv, rfl, hO, hb⟩
   have hLI := hO.intsF (below2 HW2.out HWR.out).size
   obtain ⟨la, lc, rfl⟩ := hO.form
   have hll : (natsO (thingsO k)).length = (thingsO k).length := by unfold natsO; rw [List.length_map]
   have hl8 := things_len k
   have hLT := hide (fun j (h : j < (thingsO k).length) => things_get h)
   have hBK := hide (fun j (h : j < (thingsO k).length) => belO_take (R := R) h)
   have HAS1 := hide (HAS.out k)
   have hB0 : Hid (belO R ((thingsO k).take 0) = 0) := hide rfl
   have hBN : Hid ((thingsO k).take (thingsO k).length = thingsO k) := hide (List.take_length)
   generalize thingsO k = TL at *
   rw [hll]
   have hlI : (TL.length : Int) ≤ 8 := by omega
   have HW3 := hide (below2 HWR.out hb)
   have HLI := hide hLI
   have HBV3 := hide (ints_later HBV.out hb)
   have bT3 := HBT.out.later (below2 HWR.out hb)
   clear hO hLI hb
   go_wp2_with fail
   go_loopw [8, 29] (fun sv i wz => ∃ j : Nat, j ≤ TL.length ∧ i = .int .i64 j ∧ sv = .int .i64 ((belO R (TL.take j) : Nat) : Int) ∧ wz = w2) (fun _ i _ => TL.length - (intOf i).toNat)
   case atStart => exact ⟨0, by omega, rfl, by rw [hB0.out]; rfl, rfl⟩
   case round =>
    obtain ⟨j, hj, rfl, rfl, rfl⟩ := hrel
    by_cases hlj : j < TL.length
    ·have hljI : (j : Int) < TL.length := by omega
     have HJ := hide hlj
     obtain ⟨a', n', e', -, -, hx⟩ := HLI.out.at
     obtain rfl : la = a' := by injection e'
     obtain ⟨b0, o0, rfl, hc⟩ := hx j (by rw [hll]; exact hlj)
     obtain ⟨hx8, hxe⟩ := hLT.out j hlj
     rw [hxe] at hc
     have HBK := hide (hBK.out j hlj)
     generalize TL.getD j 0 = x at *
     have hx8I : (x : Int) < 8 := by omega
     have t0 := bT3.cell x (tabC_get _ x hx8)
     obtain ⟨U, hU⟩ : ∃ U : Nat, bitsO (fun a => R a x) = U := ⟨_, rfl⟩
     have hU8 : U < 256 := by rw [← hU]; exact bits_lt _
     rw [show setI R x = (U : Int) by show ((bitsO _ : Nat) : Int) = _; rw [hU]] at t0
     rw [hU] at HBK
     have hS8 := belO_lt R (TL.take j)
     generalize belO R (TL.take j) = S at hS8 HBK ⊢
     have hor := or_nat8 hS8 hU8
     clear hx e' hxe hU
     go_wp2_with fail
     go_roundw
     case rel => exact ⟨j + 1, by have := HJ.out; omega, by go_num, by rw [HBK.out], by first | trivial | rfl⟩
     case measure => have := HJ.out; simp [intOf]; omega
    ·obtain rfl : j = TL.length := by omega
     rw [hBN.out]
     have hS8 := belO_lt R TL
     generalize belO R TL = S at hS8 HAS1 ⊢
     have hba := band_nat (a := S) (b := k) (by omega) (by omega)
     generalize S &&& k = Q at hba HAS1
     by_cases hQ : Q = 0
     ·subst hQ
      have HB : Hid (betterO (natsO (AK k)) (natsO TL) = decide (orL [cmpI (AK k).length TL.length, cmpL (natsO TL) (natsO (AK k))] < 0)) := hide (by unfold betterO; rw [hbl, hll])
      have HI1 := HLI.out.at
      have HI2 := HBV3.out.at
      try rw [hll] at HI1
      try rw [hbl] at HI2
      have H1 := hide (scmp_any _ _ _ _ _ HI1 HI2)
      clear HI1 HI2
      go_wp2_with fail
      refine (ccmp_any _ _ _).mono ?_
      rintro e w3 ⟨rfl, rfl⟩
      have HC1 := hide H1.out
      generalize cmpI (AK k).length TL.length = c1 at *
      generalize cmpL (natsO TL) (natsO (AK k)) = c2 at *
      go_wp2_with fail
      refine H1.out.mono ?_
      rintro e w3 ⟨rfl, rfl⟩
      go_wp2_with fail
      generalize hW : World.alloc w3 _ = W4
      have hb4 : Below w3.heap.size w3 W4 := by rw [← hW]; exact bal w3 _
      have B4 : Blk W4 w3.heap.size [.int .i64 c1, .int .i64 c2] 3 := by rw [← hW]; exact Blk.newA w3 _ rfl
      clear hW
      have hI : IntsIn W4.cell? (.slice (some ⟨w3.heap.size, 0, none⟩) 2 2) [c1, c2] := ⟨_, 2, rfl, by simp, by omega, fun i hi => ⟨_, _, rfl, (by
       match i, hi with
       | 0, _ => exact B4.cell 0 rfl
       | 1, _ => exact B4.cell 1 rfl)⟩⟩
      refine (cor_any [c1, c2] _ _ hI).mono ?_
      rintro e w5 ⟨rfl, rfl⟩
      have HL4 := hide (ints_later HLI.out hb4)
      have HB4 := hide (ints_later HBV3.out hb4)
      have HW4 := hide (below2 HW3.out hb4)
      have hba := HB.out
      generalize orL [c1, c2] = c at hba
      clear hI B4 hb4 HB
      by_cases hc : c < 0
      ·rw [decide_eq_true hc] at hba
       have HNX : Hid (AK (k + 1) = TL) := hide (by rw [HAS1.out, hba]; rfl)
       clear hba
       go_wp2_with fail
       go_roundw
       case rel => exact ⟨k + 1, by have := HK.out; omega, by go_num, by rw [HNX.out, ← hll]; exact HL4.out, HW4.out⟩
       case measure => have := HK.out; simp [intOf]; omega
      ·rw [decide_eq_false hc] at hba
       have HNX : Hid (AK (k + 1) = AK k) := hide (by rw [HAS1.out, hba]; rfl)
       clear hba
       go_wp2_with fail
       go_roundw
       case rel => exact ⟨k + 1, by have := HK.out; omega, by go_num, by rw [HNX.out, ← hbl]; exact HB4.out, HW4.out⟩
       case measure => have := HK.out; simp [intOf]; omega
     ·have hQb : ((Q : Int) == 0) = false := by simpa using hQ
      have HNX : Hid (AK (k + 1) = AK k) := hide (by rw [HAS1.out, if_neg (by simp [hQ])])
      have HQ := hide hQ
      clear hQ
      go_wp2_with fail
      go_roundw
      case rel => exact ⟨k + 1, by have := HK.out; omega, by go_num, by rw [HNX.out, ← hbl]; exact HBV3.out, HW3.out⟩
      case measure => have := HK.out; simp [intOf]; omega
  ·obtain rfl : k = T := by omega
   have HBV := hide hbv
   have HWR := hide (below2 HW2.out hwr)
   clear hwr
   go_wp2_with fail
   go_ret2
   exact ⟨_, rfl, by rw [HA.out]; exact HBV.out, HWR.out⟩
end Go.Proofs.YtnidcoinfmcffaaDoor
namespace Go.Proofs.YtnidcoinfmcffaaDoor
open Go.RowKit
/-- many integers -/
theorem app_intsS {w : World} {ops : Array Oper} {rest : List Oper} {o : Oper} {a : Act} {Q : Exit → Act → World → Prop} (hgd : o.guard = none) (s x : Operand)
  (ho : o.op = .call { callee := .builtin .append, args := #[s, x], argTypes := #[26, 26] }) (B : Nat) (v : Value) (l : List Int) (hs : a.eval s = v) (hown : OwnI w B v l) (xv : Value) (lx : List Int)
  (hx : a.eval x = xv) (hxs : IntsAt w xv lx) (hlen : l.length + lx.length < 1000000) (hB : B ≤ w.heap.size)
  (h : ∀ v' w', OwnI w' B v' (l ++ lx) → Eff (fun k => some k = v.ownBlock) w w' → (v'.ownBlock = v.ownBlock ∨ ∀ g, v'.ownBlock = some g → w.heap.size ≤ g) → wpList Tryd.prog ops Q rest (a.put o.dst v') w') :
  wpList Tryd.prog ops Q (o :: rest) a w := by
 obtain ⟨i0, hi, hz0, hz1, hz2⟩ := info_parts infoInt
 obtain ⟨xa, c, rfl, -, -, hc⟩ := hxs
 cases xa with
 | none =>
  have e : lx = [] := by
   cases lx with
   | nil => rfl
   | cons y t => obtain ⟨b, o, e, -⟩ := hc 0 (by simp); cases e
  subst e
  have hrun : (Builtin.append_ #[26, 26] o.type #[v, .slice none 0 c]).run Tryd.prog w = .ok v w := by
   have h3 := hown
   rcases h3.2 with ⟨rfl, h4⟩ | ⟨g, cap, cur, rfl, _, _, hnc, _⟩
   ·simp [Builtin.append_, run_underlying Tryd.underlying26, sizeOf, typeInfo, hi, Builtin.lenOf, Builtin.firstCells]
   ·simp [Builtin.append_, run_underlying Tryd.underlying26, sizeOf, typeInfo, hi, Builtin.lenOf, Builtin.firstCells, hnc, storeCells]
  refine wpList_plain hgd fun K hK => ?_
  have hx' : a.eval x = .slice none 0 c := hx
  unfold Oper.wp execOp
  simp only [ho, resolve, invoke, builtin, Sem.run_bind, Sem.run_pure, Result.andThen_ok, List.map_toArray, List.map_cons, List.map_nil, hs, hx', hrun]
  exact hK _ _ (h v w (by simpa using hown) (Eff.refl _ _) (.inl rfl))
 | some ad =>
  have hlow : ad.block < w.heap.size → ∀ j u, (lx.map (Value.int .i64))[j]? = some u → w.cell? (ad.add j) = some u := fun _ j u hj => by
   rw [List.getElem?_map] at hj
   cases hl : lx[j]? with
   | none => simp [hl] at hj
   | some y =>
    have hjl : j < lx.length := (List.getElem?_eq_some_iff.1 hl).1
    obtain ⟨b, o', e, hcl⟩ := hc j hjl
    cases e
    have : u = .int .i64 (lx.getD j 0) := by rw [hl] at hj; rw [List.getD_eq_getElem?_getD, hl]; simpa using hj.symm
    rw [this]
    cases j <;> simpa [Addr.add] using hcl
  have hcells : ∀ j u, (lx.map (Value.int .i64))[j]? = some u → w.cell? (ad.add j) = some u := fun j u hj => by
   refine hlow ?_ j u hj
   have hjl : j < lx.length := by
    have := (List.getElem?_eq_some_iff.1 hj).1; simpa using this
   obtain ⟨b, o', e, hcl⟩ := hc j hjl
   cases e
   exact lt_of_cell (a := ⟨b, o' + j, none⟩) hcl
  obtain ⟨v', w', hrun, h2, h3, -, h5⟩ := run_append_own_at (P := Tryd.prog) w B 26 o.type 3 i0 (.int .i64 0) 1 8 Tryd.underlying26 hi hz0 hz1 hz2 rfl (by decide) v l.length (l.map (Value.int .i64)) hown
   ad lx.length c (lx.map (Value.int .i64)) (by simp) hcells (by intro u hu; obtain ⟨y, -, rfl⟩ := List.mem_map.1 hu; rfl) (by unfold maxLen; omega) (by omega) hB
  refine wpList_plain hgd fun K hK => ?_
  unfold Oper.wp execOp
  simp only [ho, resolve, invoke, builtin, Sem.run_bind, Sem.run_pure, Result.andThen_ok, List.map_toArray, List.map_cons, List.map_nil, hs, hx, hrun]
  refine hK _ _ (h v' w' (by simpa [OwnI] using h2) ⟨h3.os, h3.tape, h3.output, h3.size, fun b hb hn => h3.block b hb hn⟩ (h5.imp id fun e g hg => by rw [e] at hg; cases hg; exact Nat.le_refl _))
theorem lit_ints (w : World) : OwnI (w.alloc (.cells #[] 3)) w.heap.size (.slice (some ⟨w.heap.size, 0, none⟩) 0 0) [] := World.ownsRow_lit w #[] 0 (Nat.le_refl _) (by unfold maxLen; omega) rfl
set_option maxHeartbeats 1000000 in
theorem clone_ints (l : List Int) (v : Value) (w : World) (hv : IntsIn w.cell? v l) (hl : l.length < 1000) : Calls Tryd.prog 60 #[v] w (OwnIQ l w) := by
 have hnl := fun (w : World) (a : Option Addr) (n c n' c' : Nat) => Lib.run_eql_slice_nil (P := Tryd.prog) w 26 3 a n c n' c' Tryd.underlying26
 obtain ⟨a, n, rfl, h1, h2, h3⟩ := id hv
 cases a with
 | none =>
  have hl0 : l = [] := by
   cases l with
   | nil => rfl
   | cons x t => obtain ⟨b, o, e, -⟩ := h3 0 (by simp); cases e
  have HL := hide hl0
  clear hl0
  go_enter Tryd.func60, Tryd.ntmps60
  go_wp2
  go_ret
  exact ⟨_, rfl, by rw [HL.out]; exact OwnI.nil _ _, Below.refl _ _⟩
 | some ad =>
  have HV := hide hv
  clear h3
  go_enter Tryd.func60, Tryd.ntmps60
  go_wp2_with (at_builtin; refine Hid.out ?_)
  refine hide ?_
  refine app_intsS rfl _ _ rfl w.heap.size _ [] rfl (lit_ints w) (.slice (some ad) l.length n) l rfl (IntsAt.below (bal w _) HV.out) (by simp; omega) (by simp) ?_
  intro v1 w1 hO hE _
  have HO := hide hO
  have HE := hide hE
  clear hO hE
  go_wp2_with fail
  go_ret
  have hE := HE.out
  refine ⟨_, rfl, by simpa using HO.out, ?_⟩
  exact ⟨hE.os, hE.tape, hE.output, by have := hE.size; simp at this; omega, fun k hk => by
   rw [hE.block k (by simp; omega) (by intro e; have e : k = w.heap.size := Option.some.inj e; omega), Below.heap_alloc _ _ _ hk]⟩
end Go.Proofs.YtnidcoinfmcffaaDoor
