/- The walk of Lines (chapter 15). Conditions: how the order lies in memory. -/
import Derived.Test.YtnidcoinfmcffaaDoorOmA
import Derived.Test.YtnidcoinfmcffaaDoorOpA
import Derived.Test.YtnidcoinfmcffaaDoorRegI
import Derived.Sort.CutIn
namespace Go.Proofs.YtnidcoinfmcffaaDoor
open Go.RowKit Go.Shelf
attribute [local go_sem] Oper.semAt_some
/-- the prefixes among the first k sets -/
def prefF (n : Nat) (R : RelO) : Nat → List (Fin 256)
 | 0 => []
 | k + 1 => if h : k < 256 then (if prefO n R k.testBit then prefF n R k ++ [⟨k, h⟩] else prefF n R k) else prefF n R k
theorem prefF_yes {n : Nat} {R : RelO} {k : Nat} (hk : k < 256) (h : prefO n R k.testBit = true) : prefF n R (k + 1) = prefF n R k ++ [⟨k, hk⟩] := by
 show (if h : k < 256 then _ else _) = _
 rw [dif_pos hk, if_pos h]
theorem prefF_no {n : Nat} {R : RelO} {k : Nat} (h : prefO n R k.testBit = false) : prefF n R (k + 1) = prefF n R k := by
 show (if h : k < 256 then _ else _) = _
 split
 ·rw [if_neg (by rw [h]; exact Bool.noConfusion)]
 ·rfl
theorem prefF_le (n : Nat) (R : RelO) : ∀ k, (prefF n R k).length ≤ k
 | 0 => Nat.le_refl _
 | k + 1 => by
  have ih := prefF_le n R k
  show (if h : k < 256 then (if prefO n R k.testBit then prefF n R k ++ [⟨k, h⟩] else prefF n R k) else prefF n R k).length ≤ _
  split
  ·split
   ·rw [List.length_append, List.length_singleton]; omega
   ·omega
  ·omega
theorem prefF_pre (n : Nat) (R : RelO) {k m : Nat} (h : k ≤ m) : prefF n R k <+: prefF n R m := by
  induction m with
  | zero => obtain rfl : k = 0 := by omega
            exact List.prefix_refl _
  | succ m ih =>
    by_cases e : k = m + 1
    · subst e; exact List.prefix_refl _
    · refine (ih (by omega)).trans ?_
      show prefF n R m <+: (if h : m < 256 then (if prefO n R m.testBit then prefF n R m ++ [⟨m, h⟩] else prefF n R m) else prefF n R m)
      split
      · split
        · exact List.prefix_append _ _
        · exact List.prefix_refl _
      · exact List.prefix_refl _
set_option maxRecDepth 100000 in
set_option maxHeartbeats 2000000 in
theorem prefixes1_fin (n : Nat) (R : RelO) (m l Bn Bt s : Nat) (w W : World) (J Jx : List (Fin 256) → World → Prop) (hW : Below w.heap.size w W) (_hJ : AbidesFrom W.heap.size J) (hn : n ≤ 8) (hd : ∀ a b, R a b = true → a < n ∧ b < n)
  (hs1 : s ≠ Bn) (hs2 : s ≠ Bt) (c0 : w.cell? ⟨Bn, 0, none⟩ = some (.int .i64 n)) (bT : Blk w Bt (tabC R) 65)
  (hY : ∀ pre (x : Fin 256) W1, J pre W1 → pre.length < 2 ^ n → YieldAt Fence.wide (m - 1) Tryd.prog l #[.int .i64 ((x : Nat) : Int)] W1 fun e W' =>
   (e = .returned (.bool true) ∧ J (pre ++ [x]) W' ∧ KeptBut w.heap.size s W1 W') ∨ (e = .returned (.bool false) ∧ Jx (pre ++ [x]) W')) (hJ0 : J [] W) :
  CallsIn Fence.wide m Tryd.prog 81 #[.func (.yield l) #[] #[], .pointer (some ⟨Bn, 0, none⟩), .pointer (some ⟨Bt, 0, none⟩)] W fun e W' => (∃ v, e = .returned v) ∧
   ((∃ ys, ys = prefF n R (2 ^ n) ∧ J ys W') ∨ (∃ pre, pre <+: prefF n R (2 ^ n) ∧ Jx pre W')) := by
 obtain ⟨T, hT⟩ : ∃ T : Nat, T = 2 ^ n := ⟨_, rfl⟩
 have hTw : wrap64 (2 ^ n) = (T : Int) := by rw [hT]; exact wrapw hn
 have hT2 : T ≤ 256 := by rw [hT]; exact pow_nat8 hn

 rw [← hT] at hY
 have HT := hide hT
 clear hT
 have d0 : W.cell? ⟨Bn, 0, none⟩ = some (.int .i64 n) := keep hW c0
 have HD := hide hd
 have HPY := hide (fun k hk => prefF_yes (n := n) (R := R) (k := k) hk)
 have HPN := hide (fun k => prefF_no (n := n) (R := R) (k := k))
 have HPL := hide (prefF_le n R)
 have HPP := hide (fun k (h : k ≤ T) => prefF_pre n R h)
 have HP0 : Hid (prefF n R 0 = []) := hide rfl
 have HNP := hide (fun S (h : S < 256) => need_pref hd hn h)
 clear hd
 refine callsIn_of_wp Tryd.func81 rfl trivial ?_ rfl
 simp only [Tryd.ntmps81, List.size_toArray, List.length_cons, List.length_nil, Nat.reduceAdd, Nat.reduceSub, Array.replicate_succ, Array.replicate_zero, List.push_toArray, List.append_toArray, List.nil_append, List.cons_append]
 have hwf : ∀ f, Fence.wide.fn f = True := fun _ => rfl
 have hwd : Fence.wide.depth.isSome = false := rfl
 gi_wp2
 try rw [hTw]
 clear hTw
 gi_loopw [9] (fun i wr => ∃ k : Nat, k ≤ T ∧ i = .int .i64 k ∧ J (prefF n R k) wr ∧ KeptBut w.heap.size s w wr) (fun i _ => T - (intOf i).toNat)
 case atStart => exact ⟨0, by omega, rfl, by rw [HP0.out]; exact hJ0, KeptBut.of_below hW⟩
 case round =>
  obtain ⟨k, hk, rfl, hJk, hK⟩ := hrel
  by_cases hlt : k < T
  ·have hltI : (k : Int) < T := by omega
   have HK := hide hlt
   have hk8 : k < 256 := by omega
   have hBn : Bn < w.heap.size := lt_of_cell c0
   have e0 : wr.cell? ⟨Bn, 0, none⟩ = some (.int .i64 n) := (hK.cell hBn (Ne.symm hs1)).trans c0
   have bT' : Blk wr Bt (tabC R) 65 := (hK.block Bt bT.lt (Ne.symm hs2)).trans bT
   have HY := hide hY
   have HN0 := hide (need_zero R k)
   have HNP' := hide (HNP.out k hk8)
   clear hY
   gi_wp2
   gi_loopw [5, 13] (fun sv i wz => ∃ x : Nat, x ≤ n ∧ i = .int .i64 x ∧ sv = .int .i64 ((needO R k x : Nat) : Int) ∧ wz = wr) (fun _ i _ => n - (intOf i).toNat)
   case atStart => exact ⟨0, by omega, rfl, by rw [HN0.out]; rfl, rfl⟩
   case round =>
    obtain ⟨x, hx, rfl, rfl, rfl⟩ := hrel
    by_cases hlx : x < n
    ·have hlxI : (x : Int) < n := by omega
     have HX := hide hlx
     have hx8 : x < 8 := by omega
     have hx8I : (x : Int) < 8 := by omega
     have t0 := bT'.cell x (tabC_get _ x hx8)
     obtain ⟨S, hS⟩ : ∃ S : Nat, bitsO (fun a => R a x) = S := ⟨_, rfl⟩
     have hS8 : S < 256 := by rw [← hS]; exact bits_lt _
     rw [show setI R x = (S : Int) by show ((bitsO _ : Nat) : Int) = _; rw [hS]] at t0
     have hbt := bit_test (k := x) hk8
     obtain ⟨N, hN⟩ : ∃ N : Nat, needO R k x = N := ⟨_, rfl⟩
     have hN8 : N < 256 := by rw [← hN]; exact need_lt _ _ _
     rw [hN]
     cases hr : k.testBit x
     ·rw [hr] at hbt
      have HNX := hide (need_no (R := R) hr)
      rw [hN] at HNX
      clear hr hS hN
      gi_wp2
      go_roundw
      case rel => exact ⟨x + 1, by have := HX.out; omega, by go_num, by rw [HNX.out], by first | trivial | rfl⟩
      case measure => have := HX.out; simp [intOf]; omega
     ·rw [hr] at hbt
      have HNX := hide (need_yes (R := R) hr)
      rw [hN, hS] at HNX
      have hor := or_nat8 hN8 hS8
      clear hr hS hN
      gi_wp2
      go_roundw
      case rel => exact ⟨x + 1, by have := HX.out; omega, by go_num, by rw [HNX.out], by first | trivial | rfl⟩
      case measure => have := HX.out; simp [intOf]; omega
    ·obtain rfl : x = n := by omega
     obtain ⟨N, hN⟩ : ∃ N : Nat, needO R k x = N := ⟨_, rfl⟩
     have hN8 : N < 256 := by rw [← hN]; exact need_lt _ _ _
     have hle := HPL.out k
     rw [hN] at HNP'
     rw [hN]
     have hbz := less_zero (T := N) (S := k) hN8
     rw [HNP'.out] at hbz
     cases hp : prefO x R k.testBit
     ·rw [hp] at hbz
      have HN1 := hide (HPN.out k hp)
      clear hp hN hle
      gi_wp2
      go_roundw
      case rel => exact ⟨k + 1, by have := HK.out; omega, by go_num, by rw [HN1.out]; exact hJk, hK⟩
      case measure => have := HK.out; simp [intOf]; omega
     ·rw [hp] at hbz
      have HN1 := hide (HPY.out k hk8 hp)
      obtain ⟨fn, tmps, assign, body, hy, hR⟩ := HY.out _ ⟨k, hk8⟩ _ hJk (by omega)
      clear hp hN
      gi_wp2
      refine hR.mono ?_
      rintro e W3 (⟨rfl, hJ3, hk3⟩ | ⟨rfl, hJx3⟩)
      ·gi_wp2
       go_roundw
       case rel => exact ⟨k + 1, by have := HK.out; omega, by go_num, by rw [HN1.out]; exact hJ3, hK.trans hk3⟩
       case measure => have := HK.out; simp [intOf]; omega
      ·gi_wp2
       refine bodyPost_ret (results_none rfl _ _ _) rfl ?_
       exact ⟨⟨_, rfl⟩, .inr ⟨_, by rw [← HT.out, ← HN1.out]; exact HPP.out _ (by have := HK.out; omega), hJx3⟩⟩
  ·gi_wp2
   go_end0
   obtain rfl : k = T := by omega
   exact ⟨⟨_, rfl⟩, .inl ⟨_, by rw [HT.out], hJk⟩⟩
theorem prefixes_stopsF (n : Nat) (R : RelO) (m Bn Bt s : Nat) (w : World) (hn : n ≤ 8) (hd : ∀ a b, R a b = true → a < n ∧ b < n)
  (hs1 : s ≠ Bn) (hs2 : s ≠ Bt) (c0 : w.cell? ⟨Bn, 0, none⟩ = some (.int .i64 n)) (bT : Blk w Bt (tabC R) 65) :
  SeqStopsK Fence.wide m Tryd.prog 81 #[.pointer (some ⟨Bn, 0, none⟩), .pointer (some ⟨Bt, 0, none⟩)] (fun x : Fin 256 => #[.int .i64 ((x : Nat) : Int)]) (KeptBut w.heap.size s) (fun ys => ys = prefF n R (2 ^ n)) (fun pre => pre <+: prefF n R (2 ^ n)) (2 ^ n) w :=
 fun l J Jx W hW hJ _ hY hJ0 => prefixes1_fin n R m l Bn Bt s w W J Jx hW hJ hn hd hs1 hs2 c0 bT hY hJ0
theorem mapIntT : Tryd.prog.underlying 73 = some (.map 3 3) := Tryd.underlying73
theorem zeroIntW (w : World) : (zeroValue 3).run Tryd.prog w = .ok (.int .i64 0) w := by kernel_rfl
/-- an own map of integers: at x it has h x, 0 where it has nothing -/
def OwnW (h : Int → Int) (w : World) (b n : Nat) : Prop := ∃ g, OwnMap g w b n ∧ ∀ y, (g y).getD (.int .i64 0) = .int .i64 (h y)
theorem OwnW.kept {h : Int → Int} {w w' : World} {b n : Nat} {row : Option Nat} (m : OwnW h w b n) (hg : w.grownBy w' row) (hne : some b ≠ row) : OwnW h w' b n :=
 let ⟨g, h1, h2⟩ := m
 ⟨g, h1.kept hg hne, h2⟩
theorem OwnW.later {h : Int → Int} {w w' : World} {b n : Nat} (m : OwnW h w b n) (hb : Below w.heap.size w w') : OwnW h w' b n :=
 let ⟨g, h1, h2⟩ := m
 ⟨g, h1.later hb, h2⟩
theorem OwnW.at {h : Int → Int} {w : World} {b n : Nat} (m : OwnW h w b n) {x : Int} (h1 : -9223372036854775808 ≤ x) (h2 : x ≤ 9223372036854775807) :
  (Instr.lookup 73 (.map (some b)) (.int .i64 x) false).run Tryd.prog w = .ok (.int .i64 (h x)) w := by
 obtain ⟨g, k1, k2⟩ := m
 rw [OwnMap.at mapIntT zeroIntW k1 h1 h2, k2]
def setW (h : Int → Int) (x v : Int) : Int → Int := fun y => if y = x then v else h y
theorem OwnW.put {h : Int → Int} {w : World} {b n : Nat} (m : OwnW h w b n) (hn : n < 1000000) {x : Int} (h1 : -9223372036854775808 ≤ x) (h2 : x ≤ 9223372036854775807) (v : Int) :
  ∃ w', (Instr.mapUpdate 73 (.map (some b)) (.int .i64 x) (.int .i64 v)).run Tryd.prog w = .ok () w' ∧ OwnW (setW h x v) w' b (n + 1) ∧ w.grownBy w' (some b) := by
 obtain ⟨g, k1, k2⟩ := m
 obtain ⟨w', e1, e2, e3⟩ := k1.put mapIntT hn h1 h2 (.int .i64 v)
 refine ⟨w', e1, ⟨_, e2, fun y => ?_⟩, e3⟩
 unfold putO' setW
 by_cases e : y = x
 ·rw [if_pos e, if_pos e]; rfl
 ·rw [if_neg e, if_neg e, k2]
theorem OwnW.blk {h : Int → Int} {w w' : World} {b n : Nat} (m : OwnW h w b n) (hg : w.grownBy w' (some b)) {c : Nat} {vs : List Value} {t : TypeId} (hc : Blk w c vs t) : Blk w' c vs t :=
 let ⟨_, h1, _⟩ := m
 mapblk h1 hg hc
theorem OwnW.lt {h : Int → Int} {w : World} {b n : Nat} (m : OwnW h w b n) : b < w.heap.size :=
 let ⟨_, h1, _⟩ := m
 h1.lt
theorem OwnW.no_blk {h : Int → Int} {w : World} {b n : Nat} (m : OwnW h w b n) {c : Nat} {vs : List Value} {t : TypeId} (hc : Blk w c vs t) : c ≠ b :=
 let ⟨_, h1, _⟩ := m
 h1.no_blk hc
theorem OwnW.made (w : World) : OwnW (fun _ => 0) (w.alloc (.map #[] 0)) w.heap.size 0 := ⟨_, OwnMap.made w, fun _ => rfl⟩
theorem pref_snoc {n : Nat} {R : RelO} : ∀ (k : Nat) {pre : List (Fin 256)} {x : Fin 256}, pre ++ [x] <+: prefF n R k → pre = prefF n R x.val ∧ prefO n R x.val.testBit = true ∧ x.val < k
 | 0, pre, x, h => by
  have := h.length_le
  simp [prefF] at this
 | k + 1, pre, x, h => by
  have ih := pref_snoc (n := n) (R := R) k (pre := pre) (x := x)
  have e : prefF n R (k + 1) = (if h : k < 256 then (if prefO n R k.testBit then prefF n R k ++ [⟨k, h⟩] else prefF n R k) else prefF n R k) := rfl
  rw [e] at h
  split at h
  ·split at h
   ·rename_i hk hp
    rcases List.prefix_concat_iff.1 h with h1 | h1
    ·obtain ⟨h2, h3⟩ := List.append_inj' h1 rfl
     have h4 : x = ⟨k, hk⟩ := by simpa using h3
     subst h4
     exact ⟨h2, hp, Nat.lt_succ_self _⟩
    ·obtain ⟨g1, g2, g3⟩ := ih h1
     exact ⟨g1, g2, by omega⟩
   ·obtain ⟨g1, g2, g3⟩ := ih h
    exact ⟨g1, g2, by omega⟩
  ·obtain ⟨g1, g2, g3⟩ := ih h
   exact ⟨g1, g2, by omega⟩
def valsF (l : List (Fin 256)) : List Nat := l.map Fin.val
theorem mem_prefF {n : Nat} {R : RelO} {S : Nat} : ∀ k, k ≤ 256 → (S ∈ valsF (prefF n R k) ↔ S < k ∧ prefO n R S.testBit = true)
 | 0, _ => by simp [valsF, prefF]
 | k + 1, hk => by
  have ih := mem_prefF (n := n) (R := R) (S := S) k (by omega)
  cases hp : prefO n R k.testBit
  ·rw [prefF_no hp, ih]
   refine ⟨fun h => ⟨by omega, h.2⟩, fun h => ⟨?_, h.2⟩⟩
   rcases Nat.lt_or_ge S k with h1 | h1
   ·exact h1
   ·obtain rfl : S = k := by omega
    rw [hp] at h; exact absurd h.2 (by simp)
  ·rw [prefF_yes (by omega) hp]
   unfold valsF at ih ⊢
   rw [List.map_append, List.mem_append, ih]
   simp only [List.map_cons, List.map_nil, List.mem_singleton]
   constructor
   ·rintro (h | rfl)
    ·exact ⟨by omega, h.2⟩
    ·exact ⟨Nat.lt_succ_self _, hp⟩
   ·rintro ⟨h1, h2⟩
    rcases Nat.lt_or_ge S k with h3 | h3
    ·exact .inl ⟨h3, h2⟩
    ·exact .inr (by omega)
theorem less_sub {x v : Nat} (hx : x < 256) (hv : v < 8) (h : x.testBit v = true) : lessO x (2 ^ v) = x - 2 ^ v := by
 refine Nat.eq_of_testBit_eq fun i => ?_
 have hp := pow_nat8 (x := v) (by omega)
 rw [less_bit (by omega) (by omega), (set_out hx h).2 i, Nat.testBit_two_pow]
 by_cases e : v = i
 ·subst e; simp
 ·have e' : ¬ i = v := fun h => e h.symm
  simp [e, e']
/-- what the map holds after some prefixes -/
def WaysG (n : Nat) (R : RelO) (pre : List (Fin 256)) (h : Int → Int) : Prop := ∀ S : Nat, S < 2 ^ n → h S = if S = 0 then 1 else if S ∈ valsF pre then (waysO n R S : Int) else 0
theorem ways_low {n : Nat} {R : RelO} {pre : List (Fin 256)} {x : Fin 256} {h : Int → Int} (hn : n ≤ 8) (hG : WaysG n R pre h) (hp : pre ++ [x] <+: prefF n R (2 ^ n)) : (∀ S : Nat, S < x.val → h S = (waysO n R S : Int)) ∧ (x.val ≠ 0 → h x.val = 0) ∧ (x.val = 0 → h x.val = 1) := by
 obtain ⟨h1, h2, h3⟩ := pref_snoc _ hp
 have h256 := pow_nat8 hn
 subst h1
 refine ⟨fun S hS => ?_, fun h0 => ?_, fun h0 => ?_⟩
 ·rw [hG S (by omega)]
  by_cases e0 : S = 0
  ·subst e0; rw [if_pos rfl, ways_zero]; rfl
  ·rw [if_neg e0]
   cases e1 : prefO n R S.testBit
   ·rw [if_neg (fun hm => by have := ((mem_prefF _ (by omega)).1 hm).2; rw [e1] at this; cases this), ways_not e0 e1]; rfl
   ·rw [if_pos ((mem_prefF _ (by omega)).2 ⟨hS, e1⟩)]
 ·rw [hG _ h3, if_neg h0, if_neg (fun hm => by have := ((mem_prefF _ (by omega)).1 hm).1; omega)]
 ·rw [hG _ h3, if_pos h0]
theorem ways_next {n : Nat} {R : RelO} {pre : List (Fin 256)} {x : Fin 256} {h h' : Int → Int} (hR : PoO n R) (hn : n ≤ 8) (hG : WaysG n R pre h) (hp : pre ++ [x] <+: prefF n R (2 ^ n)) (h1 : ∀ y : Int, y ≠ (x.val : Int) → h' y = h y) (h2 : h' x.val = if x.val = 0 then 1 else (wayK n R x.val n : Int)) : WaysG n R (pre ++ [x]) h' := fun S hS => by
 obtain ⟨g1, g2, g3⟩ := pref_snoc _ hp
 by_cases e : S = x.val
 ·subst e
  rw [h2]
  by_cases e0 : x.val = 0
  ·rw [if_pos e0, if_pos e0]
  ·rw [if_neg e0, if_neg e0, if_pos (by unfold valsF; simp), ways_pref hR hn g3 e0 g2]
 ·rw [h1 _ (by omega), hG S hS]
  have : S ∈ valsF (pre ++ [x]) ↔ S ∈ valsF pre := by unfold valsF; simp [e]
  by_cases e0 : S = 0
  ·rw [if_pos e0, if_pos e0]
  ·rw [if_neg e0, if_neg e0]
   by_cases e1 : S ∈ valsF pre
   ·rw [if_pos e1, if_pos (this.2 e1)]
   ·rw [if_neg e1, if_neg (fun hm => e1 (this.1 hm))]
theorem grownSO {w w' : World} (h : Below w.heap.size w w') (b : Nat) : w.grownBy w' (some b) := ⟨h.os, h.tape, h.output, h.size, fun k hk _ => h.block k hk⟩
theorem grown2O {a b c : World} {m : Nat} (h : a.grownBy b (some m)) (k : b.grownBy c (some m)) : a.grownBy c (some m) :=
 ⟨k.os.trans h.os, k.tape.trans h.tape, k.output.trans h.output, Nat.le_trans h.size k.size, fun i hi hn => (k.block i (Nat.lt_of_lt_of_le hi h.size) hn).trans (h.block i hi hn)⟩
theorem way_sum {n : Nat} {R : RelO} (hR : PoO n R) (hn : n ≤ 8) {X v Z : Nat} (hX : X < 2 ^ n) (h0 : X ≠ 0) (hp : prefO n R X.testBit = true) (hv : v < n) (hs : wayK n R X (v + 1) = wayK n R X v + waysO n R Z) :
  IntKind.i64.wrap ((wayK n R X v : Int) + (waysO n R Z : Int)) = (wayK n R X (v + 1) : Int) := by
 have h1 := wayK_mono n R X (v + 1) n (by omega)
 have h2 := ways_small hR hn hX
 rw [ways_pref hR hn hX h0 hp] at h2
 rw [hs]
 have h3 : IntKind.i64.wrap ((wayK n R X v : Int) + (waysO n R Z : Int)) = (wayK n R X v : Int) + (waysO n R Z : Int) := IntWalk.i64_in _ ⟨by omega, by omega⟩
 rw [h3, Int.natCast_add]
theorem OwnW.atN {h : Int → Int} {w : World} {b n : Nat} (m : OwnW h w b n) {k : Nat} (h1 : 1 ≤ k) (h2 : k ≤ 256) {v : Int} (hv : h ((k - 1 : Nat) : Int) = v) :
  (Instr.lookup 73 (.map (some b)) (.int .i64 ((k : Int) - 1)) false).run Tryd.prog w = .ok (.int .i64 v) w := by
 have e : ((k - 1 : Nat) : Int) = (k : Int) - 1 := by omega
 rw [e] at hv
 rw [m.at (by omega) (by omega), hv]
theorem wrap_pred {T : Nat} (h1 : 1 ≤ T) (h2 : T ≤ 256) : IntKind.i64.wrap ((T : Int) - 1) = T - 1 := IntWalk.i64_in _ ⟨by omega, by omega⟩
theorem ways_full {n : Nat} {R : RelO} {h : Int → Int} (hn : n ≤ 8) (hG : WaysG n R (prefF n R (2 ^ n)) h) {S : Nat} (hS : S < 2 ^ n) : h S = (waysO n R S : Int) := by
 have h256 := pow_nat8 hn
 rw [hG S hS]
 by_cases e0 : S = 0
 ·subst e0; rw [if_pos rfl, ways_zero]; rfl
 ·rw [if_neg e0]
  cases e1 : prefO n R S.testBit
  ·rw [if_neg (fun hm => by have := ((mem_prefF _ (by omega)).1 hm).2; rw [e1] at this; cases this), ways_not e0 e1]; rfl
  ·rw [if_pos ((mem_prefF _ (by omega)).2 ⟨hS, e1⟩)]
theorem lines_no (o : OrderD) (pv : Value) (w : World) (hp : PairsIn w.cell? pv o.pairs) (hv : validO o = false) : Calls Tryd.prog 20 #[orderV o.n pv] w (Ret (.tuple #[.int .i64 0, .int .i64 150]) w) := by
 obtain ⟨on, ps⟩ := o
 obtain ⟨pa, pm, rfl, -, -, -⟩ := id hp
 have HR := hide (fun W (hb : Below w.heap.size w W) => by
  have h := read_any ⟨on, ps⟩ (.slice pa ps.length pm) W (RecIn.below hb hp)
  rw [hv] at h
  exact h)
 generalize readO ⟨on, ps⟩ = R at *
 clear hp hv
 go_enter Tryd.func20, Tryd.ntmps20
 go_wp2_with fail
 generalize hX1 : World.alloc w _ = X1
 have zX1 : X1.heap.size = w.heap.size + 1 := by rw [← hX1]; simp
 have bX1 : Below w.heap.size w X1 := by rw [← hX1]; exact bal w _
 have bO : Blk X1 (w.heap.size) [.int .i64 on, .slice pa ps.length pm] 25 := by rw [← hX1]; exact Blk.newA w _ (by first | rfl | simp)
 have Xb := bX1
 have Xz := zX1
 clear hX1 zX1 bX1
 have c0 := bO.cell 0 rfl
 have c1 := bO.cell 1 rfl
 refine (HR.out _ Xb).mono ?_
 rintro e w1 ⟨rfl, hb⟩
 have hw := below2 Xb hb
 clear c0 c1 bO hb Xb Xz
 go_wp2_with fail
 go_ret2
 exact ⟨rfl, below2 hw (bal _ _)⟩
/-- what stands while the lines are counted -/
def LinI (n : Nat) (R : RelO) (w Y1 M1 w2 : World) (pl : Nat) (pa : Option Addr) (pm : Nat) (pre : List (Fin 256)) (W : World) : Prop :=
 ∃ (h : Int → Int) (clk : Nat), OwnW h W Y1.heap.size clk ∧ clk ≤ 8 * pre.length + 1 ∧ (pre <+: prefF n R (2 ^ n) → WaysG n R pre h) ∧ Blk W w.heap.size [.int .i64 n, .slice pa pl pm] 25 ∧ Blk W M1.heap.size [.map (some Y1.heap.size)] 73 ∧ Below w.heap.size w W ∧ w2.heap.size ≤ W.heap.size
theorem linI_own {n : Nat} {R : RelO} {w Y1 M1 w2 : World} {pl : Nat} {pa : Option Addr} {pm : Nat} (h1 : Y1.heap.size < w2.heap.size) (_h2 : w.heap.size ≤ w2.heap.size) (h3 : w.heap.size < w2.heap.size) (h4 : M1.heap.size < w2.heap.size) : OwnFrom w2.heap.size (fun pre W => LinI n R w Y1 M1 w2 pl pa pm pre W) := by
 rintro pre W W' row ⟨h, clk, m, hc, hg, b1, b2, hw, hs⟩ hgr hr
 have hne : ∀ k, k < w2.heap.size → some k ≠ row := fun k hk e => by
  have := (hr k e.symm).1
  omega
 have hb : ∀ k, k < w2.heap.size → W'.heap[k]? = W.heap[k]? := fun k hk => hgr.block k (by omega) (hne k hk)
 exact ⟨h, clk, m.kept hgr (hne _ h1), hc, hg, (hb _ h3).trans b1, (hb _ h4).trans b2, ⟨hgr.os.trans hw.os, hgr.tape.trans hw.tape, hgr.output.trans hw.output, Nat.le_trans hw.size hgr.size, fun k hk => (hb k (by omega)).trans (hw.block k hk)⟩, Nat.le_trans hs hgr.size⟩
set_option maxRecDepth 100000 in
set_option maxHeartbeats 2000000 in
theorem lines_yes (n : Nat) (ps : List (Int × Int)) (pv : Value) (w : World) (hp : PairsIn w.cell? pv ps) (hv : validO ⟨n, ps⟩ = true) : Calls Tryd.prog 20 #[orderV n pv] w (Ret (.tuple #[.int .i64 ((linesO n (beforeO ⟨n, ps⟩)).length : Nat), .int .i64 0]) w) := by
 obtain ⟨pa, pm, rfl, -, -, -⟩ := id hp
 have hn8 : n ≤ 8 := by
  have hf : formedO ⟨(n : Int), ps⟩ = true := by unfold validO at hv; rw [Bool.and_eq_true] at hv; exact hv.1
  have := (formed_n hf).1.2
  simp only at this
  omega
 have HPO := hide (show PoO n (beforeO ⟨(n : Int), ps⟩) from before_po hv)
 have HR := hide (fun W (hb : Below w.heap.size w W) => by
  have h := read_any ⟨(n : Int), ps⟩ (.slice pa ps.length pm) W (RecIn.below hb hp)
  rw [hv, show readO ⟨(n : Int), ps⟩ = beforeO ⟨(n : Int), ps⟩ by
   have hf : formedO ⟨(n : Int), ps⟩ = true := by unfold validO at hv; rw [Bool.and_eq_true] at hv; exact hv.1
   unfold readO; rw [if_pos hf]] at h
  exact h)
 generalize beforeO ⟨(n : Int), ps⟩ = R at *
 clear hp hv
 have hmk : (Instr.makeMap 73 none).run Tryd.prog = fun w => .ok (.map (some w.heap.size)) (w.alloc (.map #[] 0)) := by
  funext w; simp [Instr.makeMap, go_sem]
 refine (callsIn_wide (n := 10)).1 ?_
 refine callsIn_of_wp_marks Tryd.func20 rfl trivial ?_ rfl
 simp only [Tryd.ntmps20, List.size_toArray, List.length_cons, List.length_nil, Nat.reduceAdd, Nat.reduceSub, Array.replicate_succ, Array.replicate_zero, List.push_toArray, List.append_toArray, List.nil_append, List.cons_append]
 have hwf : ∀ f, Fence.wide.fn f = True := fun _ => rfl
 have hwd : Fence.wide.depth.isSome = false := rfl
 gi_wp2_with fail
 generalize hX1 : World.alloc w _ = X1
 have zX1 : X1.heap.size = w.heap.size + 1 := by rw [← hX1]; simp
 have bX1 : Below w.heap.size w X1 := by rw [← hX1]; exact bal w _
 have bO : Blk X1 (w.heap.size) [.int .i64 n, .slice pa ps.length pm] 25 := by rw [← hX1]; exact Blk.newA w _ (by first | rfl | simp)
 have Xb := bX1
 have Xz := zX1
 clear hX1 zX1 bX1
 have c0 := bO.cell 0 rfl
 have c1 := bO.cell 1 rfl
 refine (callsIn_wide.2 (HR.out _ Xb)).mono ?_
 rintro e w1 ⟨rfl, hb⟩
 have hw := below2 Xb hb
 replace bO := bO.later hb
 clear c0 c1 hb Xb Xz
 gi_upto_region 4 with (fail)
 generalize hY1 : World.alloc w1 _ = Y1
 have zY1 : Y1.heap.size = w1.heap.size + 1 := by rw [← hY1]; simp
 have bY1 : Below w1.heap.size w1 Y1 := by rw [← hY1]; exact bal w1 _
 have bT : Blk Y1 (w1.heap.size) (tabC R) 65 := by rw [← hY1]; exact Blk.newA w1 _ (by first | rfl | simp)
 have Yb := bY1
 have Yz := zY1
 clear hY1 zY1 bY1
 replace bO := bO.later Yb
 have hw2 := below2 hw Yb
 clear Yb Yz hw
 obtain ⟨M1, hM1, hmw, hmg⟩ := OwnW.put (OwnW.made Y1) (by decide) (x := 0) (by decide) (by decide) 1
 have hYa := bal Y1 (.map #[] 0)
 have bO1 := (OwnW.made Y1).blk hmg (bO.later hYa)
 have bT1 := (OwnW.made Y1).blk hmg (bT.later hYa)
 have hbM : Below Y1.heap.size Y1 M1 := ⟨hmg.os.trans hYa.os, hmg.tape.trans hYa.tape, hmg.output.trans hYa.output, Nat.le_trans hYa.size hmg.size, fun k hk => by
  rw [hmg.block k (by simp; omega) (by intro e; have e : k = Y1.heap.size := Option.some.inj e; omega)]
  exact hYa.block k hk⟩
 have hwM := below2 hw2 hbM
 have hwsY := hw2.size
 gi_upto_region 5 with (fail)
 generalize hZ1 : World.alloc M1 _ = Z1
 have zZ1 : Z1.heap.size = M1.heap.size + 1 := by rw [← hZ1]; simp
 have bZ1 : Below M1.heap.size M1 Z1 := by rw [← hZ1]; exact bal M1 _
 have bM : Blk Z1 (M1.heap.size) [.map (some Y1.heap.size)] 73 := by rw [← hZ1]; exact Blk.newA M1 _ (by first | rfl | simp)
 have Zb := bZ1
 have Zz := zZ1
 clear hZ1 zZ1 bZ1
 have hwZ := below2 hwM Zb
 replace hmw := hmw.later Zb
 have bO2 := bO1.later Zb
 have bT2 := bT1.later Zb
 have o0 := bO2.cell 0 rfl
 have t0 := bT2.cell 0 rfl
 have t1 := bT2.cell 1 rfl
 have t2 := bT2.cell 2 rfl
 have t3 := bT2.cell 3 rfl
 have t4 := bT2.cell 4 rfl
 have t5 := bT2.cell 5 rfl
 have t6 := bT2.cell 6 rfl
 have t7 := bT2.cell 7 rfl
 clear hM1 hmg hYa hbM hwM hw2 bO bT bO1 bT1 hmk Zb Zz
 gi_wp2_with fail
 refine (callsIn_wide.2 (prefixesf_any n R _)).mono ?_
 rintro e w2 ⟨rfl, hw2'⟩
 have hb2 : Below Z1.heap.size Z1 w2 := by rw [← hw2']; exact below2 (bal Z1 _) (bal _ _)
 have bN2 : Blk w2 Z1.heap.size [.int .i64 n] 3 := by rw [← hw2']; exact (Blk.newA Z1 _ rfl).later (bal _ _)
 have bT3 : Blk w2 (Z1.heap.size + 1) (tabC R) 65 := by
  have h := Blk.newA (Z1.alloc (.cells #[.int .i64 n] 3)) (tabC R).toArray (t := 65) rfl
  rw [← hw2']
  have e : (Z1.alloc (.cells #[.int .i64 n] 3)).heap.size = Z1.heap.size + 1 := by simp
  rwa [e] at h
 have hwW := below2 hwZ hb2
 have hmw2 := hmw.later hb2
 have bO3 := bO2.later hb2
 have bM3 := bM.later hb2
 have hsY : Y1.heap.size < w2.heap.size := hmw2.lt
 have hZ2 : Z1.heap.size + 1 < w2.heap.size := bT3.lt
 have hYZ : Y1.heap.size < Z1.heap.size := hmw.lt
 have hMo : Blk Z1 M1.heap.size [.map (some Y1.heap.size)] 73 := bM
 have HS := hide (prefixes_stopsF n R 9 Z1.heap.size (Z1.heap.size + 1) Y1.heap.size w2 hn8 (fun a b h => HPO.out.dom a b h) (by omega) (by omega) (bN2.cell 0 rfl) bT3)
 have hwY : w.heap.size ≤ Y1.heap.size := hwsY
 have hne1 : w.heap.size ≠ Y1.heap.size := (hmw2.no_blk bO3)
 have hne2 : M1.heap.size ≠ Y1.heap.size := (hmw2.no_blk bM3)
 have hG0 : WaysG n R [] (setW (fun _ => 0) 0 1) := fun S _ => by
  unfold setW
  by_cases e : S = 0
  ·subst e; rfl
  ·rw [if_neg e, if_neg (by omega), if_neg (by simp [valsF])]
 have h2n := pow_nat8 hn8
 clear t0 t1 t2 t3 t4 t5 t6 t7 o0 bN2 bT3 hb2 hw2' bT2 bO2 bM hmw hwZ hMo hYZ hZ2
 gi_wp2_with fail
 refine wpIn_rangeFunc_ownG rfl (by omega) (gf := 81) rfl trivial (Go.Proofs.enters_of Tryd.func81 (by kernel_rfl) rfl) HS.out (fun h k => h.trans k) (fun W l o o' hl _ _ _ => KeptBut.putObj W l o' hl) (Below.refl _ _) (fun _ => rfl)
  (fun pre W => LinI n R w Y1 M1 w2 ps.length pa pm pre W) (fun _ _ _ => False) (linI_own hsY hwW.size bO3.lt bM3.lt) (fun _ _ _ _ _ hs _ _ => hs)
  ⟨_, _, hmw2, by simp, fun _ => hG0, bO3, bM3, hwW, Nat.le_refl _⟩ ?a1 ?assign ?body ?done ?stop
 case assign =>
  intro l x W K hK
  gi_wp2
  exact hK
 case body =>
  rintro l pre x W ⟨h, clk, m, hc, hG, bO, bM, hw, hs⟩ hL
  have hx8 := x.isLt
  have HN := hide (fun h' => ways_next (h := h) (h' := h') HPO.out hn8 (pre := pre) (x := x))
  have HLo := hide (ways_low (R := R) hn8 (pre := pre) (x := x) (h := h))
  obtain ⟨X, hX⟩ : ∃ X : Nat, X = x.val := ⟨_, rfl⟩
  rw [← hX] at hx8
  simp only [← hX] at HN HLo ⊢
  have HG := hide hG
  have HP := hide (show X = x.val from hX)
  clear hX hG
  have o0 := bO.cell 0 rfl
  gi_wp2_with fail
  gi_loopw [25] (fun i wr => ∃ (v : Nat) (h' : Int → Int) (clk' : Nat), v ≤ n ∧ i = .int .i64 v ∧ OwnW h' wr Y1.heap.size clk' ∧ clk' ≤ clk + v ∧ (∀ y : Int, y ≠ X → h' y = h y) ∧ (pre ++ [x] <+: prefF n R (2^n) → h' X = if X = 0 then 1 else (wayK n R X v : Int)) ∧ Blk wr w.heap.size [.int .i64 n, .slice pa ps.length pm] 25 ∧ Blk wr M1.heap.size [.map (some Y1.heap.size)] 73 ∧ Below w.heap.size w wr ∧ w2.heap.size ≤ wr.heap.size ∧ KeptBut w2.heap.size Y1.heap.size W wr ∧ KeepsFrom w2.heap.size W wr) (fun i _ => n - (intOf i).toNat)
  case atStart => 
   refine ⟨0, h, clk, by omega, rfl, m, by omega, fun _ _ => rfl, fun hp => ?_, bO, bM, hw, hs, KeptBut.of_below (Below.refl _ _), KeepsFrom.refl _ _⟩
   obtain ⟨-, l2, l3⟩ := HLo.out (HG.out ((List.prefix_append pre [x]).trans hp)) hp
   by_cases e : X = 0
   ·rw [if_pos e]; exact l3 e
   ·rw [if_neg e]; exact l2 e
  case round =>
   obtain ⟨v, h', clk', hv, rfl, m', hc', hO, hM, bO', bM', hw', hs', hk1, hk2⟩ := hrel
   by_cases hlv : v < n
   ·have hlvI : (v : Int) < n := by omega
    have hv8 : v < 8 := by omega
    have HV := hide hlv
    have hbt := bit_test (k := v) hx8
    cases hr : X.testBit v
    ·rw [hr] at hbt
     have HR := hide hr
     have HS := hide (wayK_succ n R X v)
     rw [hr] at HS
     clear hr
     gi_wp2_with fail
     go_roundw
     case rel => exact ⟨v + 1, h', clk', by have := HV.out; omega, by go_num, m', by omega, hO, fun hp => (by rw [hM hp, HS.out]; rfl), bO', bM', hw', hs', hk1, hk2⟩
     case measure => have := HV.out; simp [intOf]; omega
    ·rw [hr] at hbt
     have HR := hide hr
     have HS := hide (wayK_succ n R X v)
     rw [hr] at HS
     obtain ⟨T, hT⟩ : ∃ T : Nat, 2 ^ v = T := ⟨_, rfl⟩
     have hor := bless_nat (a := X) (b := T) (by omega)
     have hwp : IntKind.i64.wrap (2 ^ v) = (T : Int) := by rw [← hT]; exact wrap_pow (x := v) (by omega)
     have HLS := hide (less_sub hx8 hv8 hr)
     have HSO := hide (set_out hx8 hr)
     rw [hT] at HS HLS HSO
     have hlx : lessO X T < 256 := Nat.lt_of_le_of_lt (less_le X T (by omega)) hx8
     have M0 := bM'.cell 0 rfl
     have HM' := hide (And.intro hc' hc)
     have HO := hide hO
     have HLv := hide hM
     have HBO := hide bO'
     have HWW := hide hw'
     have HK1 := hide hk1
     have HK2 := hide hk2
     have HMX := hide m'
     have hpl : pre.length < 256 := by omega
     have h1000 : clk' < 1000000 := by omega
     generalize hLX : lessO X T = LX at hor hlx HLS
     have HT := hide hT
     clear hO hM bO' hw' hk1 hk2 hr hLX m' hc' hT
     gi_upto_region 11 with (fail)
     refine wpIn_region_inv [some 33, some 34, some 35, some 36, some 37, some 38, some 39, some 40, some 41, some 42, none] (fun L vs W => match vs with | [x0, x1, x2, x3, x4, x5, x6, x7, x8, x9, x10] => (Blk W M1.heap.size [.map (some Y1.heap.size)] 73 ∧ (L 10 = false → OwnW h' W Y1.heap.size clk' ∧ Below wr.heap.size wr W)) ∧ (L 0 = true → x0 = .map (some Y1.heap.size)) ∧ (L 1 = true → x1 = .int .i64 X) ∧ (L 2 = true → x2 = .int .i64 (h' X)) ∧ (L 3 = true → x3 = .map (some Y1.heap.size)) ∧ (L 4 = true → x4 = .int .i64 X) ∧ (L 5 = true → x5 = .int .i64 v) ∧ (L 6 = true → x6 = .int .i64 T) ∧ (L 7 = true → x7 = .int .i64 LX) ∧ (L 8 = true → x8 = .int .i64 (h' LX)) ∧ (L 9 = true → (L 2 = true ∧ L 8 = true) ∧ x9 = .int .i64 (IntKind.i64.wrap (h' X + h' LX))) ∧ (L 10 = true → (L 2 = true ∧ L 8 = true) ∧ OwnW (setW h' X (IntKind.i64.wrap (h' X + h' LX))) W Y1.heap.size (clk' + 1) ∧ wr.grownBy W (some Y1.heap.size)) | _ => False) [_, _, _, _, _, _, _, _, _, _, undef] (by kernel_rfl) (by kernel_rfl) (by kernel_rfl) rfl (by simp only [puts, Act.put, List.setIfInBounds_toArray, List.set_cons_zero, List.set_cons_succ] <;> rfl) ?_ ?_ ?_
     ·exact ⟨⟨bM'.later (Below.refl _ _).drew, fun _ => ⟨HMX.out.later (Below.refl _ _).drew, (Below.refl _ _).drew⟩⟩, (fun h => by cases h), (fun h => by cases h), (fun h => by cases h), (fun h => by cases h), (fun h => by cases h), (fun h => by cases h), (fun h => by cases h), (fun h => by cases h), (fun h => by cases h), (fun h => by cases h), (fun h => by cases h)⟩
     ·refine ⟨?_, ?_, ?_, ?_, ?_, ?_, ?_, ?_, ?_, ?_, ?_, trivial⟩
      ·intro L vs W hlen hL hD hI K hK
       obtain ⟨x0, x1, x2, x3, x4, x5, x6, x7, x8, x9, x10, rfl⟩ := len11 hlen
       have hG := hI.1
       replace hI := hI.2
       have f0 := hide hI.1
       replace hI := hI.2
       have f1 := hide hI.1
       replace hI := hI.2
       have f2 := hide hI.1
       replace hI := hI.2
       have f3 := hide hI.1
       replace hI := hI.2
       have f4 := hide hI.1
       replace hI := hI.2
       have f5 := hide hI.1
       replace hI := hI.2
       have f6 := hide hI.1
       replace hI := hI.2
       have f7 := hide hI.1
       replace hI := hI.2
       have f8 := hide hI.1
       replace hI := hI.2
       have f9 := hide hI.1
       replace hI := hI.2
       have f10 := hide hI
       clear hI
       try simp only [puts, Act.put, List.setIfInBounds_toArray, List.set_cons_zero, List.set_cons_succ]
       have z0 := hG.1.cell 0 rfl
       go_simp
       exact hK.out _ _ _ (by simp only [puts, Act.put, List.setIfInBounds_toArray, List.set_cons_zero, List.set_cons_succ] <;> rfl) ⟨hG, (fun _ => rfl), (fun h => f1.out h), (fun h => f2.out h), (fun h => f3.out h), (fun h => f4.out h), (fun h => f5.out h), (fun h => f6.out h), (fun h => f7.out h), (fun h => f8.out h), (fun h => f9.out h), (fun h => f10.out h)⟩
      ·intro L vs W hlen hL hD hI K hK
       obtain ⟨x0, x1, x2, x3, x4, x5, x6, x7, x8, x9, x10, rfl⟩ := len11 hlen
       have hG := hI.1
       replace hI := hI.2
       have f0 := hide hI.1
       replace hI := hI.2
       have f1 := hide hI.1
       replace hI := hI.2
       have f2 := hide hI.1
       replace hI := hI.2
       have f3 := hide hI.1
       replace hI := hI.2
       have f4 := hide hI.1
       replace hI := hI.2
       have f5 := hide hI.1
       replace hI := hI.2
       have f6 := hide hI.1
       replace hI := hI.2
       have f7 := hide hI.1
       replace hI := hI.2
       have f8 := hide hI.1
       replace hI := hI.2
       have f9 := hide hI.1
       replace hI := hI.2
       have f10 := hide hI
       clear hI
       try simp only [puts, Act.put, List.setIfInBounds_toArray, List.set_cons_zero, List.set_cons_succ]
       try go_simp
       exact hK.out _ _ _ (by simp only [puts, Act.put, List.setIfInBounds_toArray, List.set_cons_zero, List.set_cons_succ] <;> rfl) ⟨hG, (fun h => f0.out h), (fun _ => rfl), (fun h => f2.out h), (fun h => f3.out h), (fun h => f4.out h), (fun h => f5.out h), (fun h => f6.out h), (fun h => f7.out h), (fun h => f8.out h), (fun h => f9.out h), (fun h => f10.out h)⟩
      ·intro L vs W hlen hL hD hI K hK
       obtain ⟨x0, x1, x2, x3, x4, x5, x6, x7, x8, x9, x10, rfl⟩ := len11 hlen
       have hG := hI.1
       replace hI := hI.2
       have f0 := hide hI.1
       replace hI := hI.2
       have f1 := hide hI.1
       replace hI := hI.2
       have f2 := hide hI.1
       replace hI := hI.2
       have f3 := hide hI.1
       replace hI := hI.2
       have f4 := hide hI.1
       replace hI := hI.2
       have f5 := hide hI.1
       replace hI := hI.2
       have f6 := hide hI.1
       replace hI := hI.2
       have f7 := hide hI.1
       replace hI := hI.2
       have f8 := hide hI.1
       replace hI := hI.2
       have f9 := hide hI.1
       replace hI := hI.2
       have f10 := hide hI
       clear hI
       obtain rfl := f0.out (hD.on 0 (by kernel_rfl))
       obtain rfl := f1.out (hD.on 1 (by kernel_rfl))
       try simp only [puts, Act.put, List.setIfInBounds_toArray, List.set_cons_zero, List.set_cons_succ]
       have h10 : L 10 = false := Bool.eq_false_iff.2 (fun h => absurd ((f10.out h).1.1.symm.trans hL) (by decide))
       have hl := (hG.2 h10).1.at (x := X) (by omega) (by omega)
       go_simp
       exact hK.out _ _ _ (by simp only [puts, Act.put, List.setIfInBounds_toArray, List.set_cons_zero, List.set_cons_succ] <;> rfl) ⟨hG, (fun h => f0.out h), (fun h => f1.out h), (fun _ => rfl), (fun h => f3.out h), (fun h => f4.out h), (fun h => f5.out h), (fun h => f6.out h), (fun h => f7.out h), (fun h => f8.out h), (fun h => (fun h => ⟨⟨rfl, h.1.2⟩, h.2⟩) (f9.out h)), (fun h => (fun h => absurd (h.1.1.symm.trans hL) (by decide)) (f10.out h))⟩
      ·intro L vs W hlen hL hD hI K hK
       obtain ⟨x0, x1, x2, x3, x4, x5, x6, x7, x8, x9, x10, rfl⟩ := len11 hlen
       have hG := hI.1
       replace hI := hI.2
       have f0 := hide hI.1
       replace hI := hI.2
       have f1 := hide hI.1
       replace hI := hI.2
       have f2 := hide hI.1
       replace hI := hI.2
       have f3 := hide hI.1
       replace hI := hI.2
       have f4 := hide hI.1
       replace hI := hI.2
       have f5 := hide hI.1
       replace hI := hI.2
       have f6 := hide hI.1
       replace hI := hI.2
       have f7 := hide hI.1
       replace hI := hI.2
       have f8 := hide hI.1
       replace hI := hI.2
       have f9 := hide hI.1
       replace hI := hI.2
       have f10 := hide hI
       clear hI
       try simp only [puts, Act.put, List.setIfInBounds_toArray, List.set_cons_zero, List.set_cons_succ]
       have z0 := hG.1.cell 0 rfl
       go_simp
       exact hK.out _ _ _ (by simp only [puts, Act.put, List.setIfInBounds_toArray, List.set_cons_zero, List.set_cons_succ] <;> rfl) ⟨hG, (fun h => f0.out h), (fun h => f1.out h), (fun h => f2.out h), (fun _ => rfl), (fun h => f4.out h), (fun h => f5.out h), (fun h => f6.out h), (fun h => f7.out h), (fun h => f8.out h), (fun h => f9.out h), (fun h => f10.out h)⟩
      ·intro L vs W hlen hL hD hI K hK
       obtain ⟨x0, x1, x2, x3, x4, x5, x6, x7, x8, x9, x10, rfl⟩ := len11 hlen
       have hG := hI.1
       replace hI := hI.2
       have f0 := hide hI.1
       replace hI := hI.2
       have f1 := hide hI.1
       replace hI := hI.2
       have f2 := hide hI.1
       replace hI := hI.2
       have f3 := hide hI.1
       replace hI := hI.2
       have f4 := hide hI.1
       replace hI := hI.2
       have f5 := hide hI.1
       replace hI := hI.2
       have f6 := hide hI.1
       replace hI := hI.2
       have f7 := hide hI.1
       replace hI := hI.2
       have f8 := hide hI.1
       replace hI := hI.2
       have f9 := hide hI.1
       replace hI := hI.2
       have f10 := hide hI
       clear hI
       try simp only [puts, Act.put, List.setIfInBounds_toArray, List.set_cons_zero, List.set_cons_succ]
       try go_simp
       exact hK.out _ _ _ (by simp only [puts, Act.put, List.setIfInBounds_toArray, List.set_cons_zero, List.set_cons_succ] <;> rfl) ⟨hG, (fun h => f0.out h), (fun h => f1.out h), (fun h => f2.out h), (fun h => f3.out h), (fun _ => rfl), (fun h => f5.out h), (fun h => f6.out h), (fun h => f7.out h), (fun h => f8.out h), (fun h => f9.out h), (fun h => f10.out h)⟩
      ·intro L vs W hlen hL hD hI K hK
       obtain ⟨x0, x1, x2, x3, x4, x5, x6, x7, x8, x9, x10, rfl⟩ := len11 hlen
       have hG := hI.1
       replace hI := hI.2
       have f0 := hide hI.1
       replace hI := hI.2
       have f1 := hide hI.1
       replace hI := hI.2
       have f2 := hide hI.1
       replace hI := hI.2
       have f3 := hide hI.1
       replace hI := hI.2
       have f4 := hide hI.1
       replace hI := hI.2
       have f5 := hide hI.1
       replace hI := hI.2
       have f6 := hide hI.1
       replace hI := hI.2
       have f7 := hide hI.1
       replace hI := hI.2
       have f8 := hide hI.1
       replace hI := hI.2
       have f9 := hide hI.1
       replace hI := hI.2
       have f10 := hide hI
       clear hI
       try simp only [puts, Act.put, List.setIfInBounds_toArray, List.set_cons_zero, List.set_cons_succ]
       try go_simp
       exact hK.out _ _ _ (by simp only [puts, Act.put, List.setIfInBounds_toArray, List.set_cons_zero, List.set_cons_succ] <;> rfl) ⟨hG, (fun h => f0.out h), (fun h => f1.out h), (fun h => f2.out h), (fun h => f3.out h), (fun h => f4.out h), (fun _ => rfl), (fun h => f6.out h), (fun h => f7.out h), (fun h => f8.out h), (fun h => f9.out h), (fun h => f10.out h)⟩
      ·intro L vs W hlen hL hD hI K hK
       obtain ⟨x0, x1, x2, x3, x4, x5, x6, x7, x8, x9, x10, rfl⟩ := len11 hlen
       have hG := hI.1
       replace hI := hI.2
       have f0 := hide hI.1
       replace hI := hI.2
       have f1 := hide hI.1
       replace hI := hI.2
       have f2 := hide hI.1
       replace hI := hI.2
       have f3 := hide hI.1
       replace hI := hI.2
       have f4 := hide hI.1
       replace hI := hI.2
       have f5 := hide hI.1
       replace hI := hI.2
       have f6 := hide hI.1
       replace hI := hI.2
       have f7 := hide hI.1
       replace hI := hI.2
       have f8 := hide hI.1
       replace hI := hI.2
       have f9 := hide hI.1
       replace hI := hI.2
       have f10 := hide hI
       clear hI
       obtain rfl := f5.out (hD.on 5 (by kernel_rfl))
       try simp only [puts, Act.put, List.setIfInBounds_toArray, List.set_cons_zero, List.set_cons_succ]
       try go_simp
       exact hK.out _ _ _ (by simp only [puts, Act.put, List.setIfInBounds_toArray, List.set_cons_zero, List.set_cons_succ] <;> rfl) ⟨hG, (fun h => f0.out h), (fun h => f1.out h), (fun h => f2.out h), (fun h => f3.out h), (fun h => f4.out h), (fun h => f5.out h), (fun _ => rfl), (fun h => f7.out h), (fun h => f8.out h), (fun h => f9.out h), (fun h => f10.out h)⟩
      ·intro L vs W hlen hL hD hI K hK
       obtain ⟨x0, x1, x2, x3, x4, x5, x6, x7, x8, x9, x10, rfl⟩ := len11 hlen
       have hG := hI.1
       replace hI := hI.2
       have f0 := hide hI.1
       replace hI := hI.2
       have f1 := hide hI.1
       replace hI := hI.2
       have f2 := hide hI.1
       replace hI := hI.2
       have f3 := hide hI.1
       replace hI := hI.2
       have f4 := hide hI.1
       replace hI := hI.2
       have f5 := hide hI.1
       replace hI := hI.2
       have f6 := hide hI.1
       replace hI := hI.2
       have f7 := hide hI.1
       replace hI := hI.2
       have f8 := hide hI.1
       replace hI := hI.2
       have f9 := hide hI.1
       replace hI := hI.2
       have f10 := hide hI
       clear hI
       obtain rfl := f4.out (hD.on 4 (by kernel_rfl))
       obtain rfl := f6.out (hD.on 6 (by kernel_rfl))
       try simp only [puts, Act.put, List.setIfInBounds_toArray, List.set_cons_zero, List.set_cons_succ]
       try go_simp
       exact hK.out _ _ _ (by simp only [puts, Act.put, List.setIfInBounds_toArray, List.set_cons_zero, List.set_cons_succ] <;> rfl) ⟨hG, (fun h => f0.out h), (fun h => f1.out h), (fun h => f2.out h), (fun h => f3.out h), (fun h => f4.out h), (fun h => f5.out h), (fun h => f6.out h), (fun _ => rfl), (fun h => f8.out h), (fun h => f9.out h), (fun h => f10.out h)⟩
      ·intro L vs W hlen hL hD hI K hK
       obtain ⟨x0, x1, x2, x3, x4, x5, x6, x7, x8, x9, x10, rfl⟩ := len11 hlen
       have hG := hI.1
       replace hI := hI.2
       have f0 := hide hI.1
       replace hI := hI.2
       have f1 := hide hI.1
       replace hI := hI.2
       have f2 := hide hI.1
       replace hI := hI.2
       have f3 := hide hI.1
       replace hI := hI.2
       have f4 := hide hI.1
       replace hI := hI.2
       have f5 := hide hI.1
       replace hI := hI.2
       have f6 := hide hI.1
       replace hI := hI.2
       have f7 := hide hI.1
       replace hI := hI.2
       have f8 := hide hI.1
       replace hI := hI.2
       have f9 := hide hI.1
       replace hI := hI.2
       have f10 := hide hI
       clear hI
       obtain rfl := f3.out (hD.on 3 (by kernel_rfl))
       obtain rfl := f7.out (hD.on 7 (by kernel_rfl))
       try simp only [puts, Act.put, List.setIfInBounds_toArray, List.set_cons_zero, List.set_cons_succ]
       have h10 : L 10 = false := Bool.eq_false_iff.2 (fun h => absurd ((f10.out h).1.2.symm.trans hL) (by decide))
       have hl := (hG.2 h10).1.at (x := LX) (by omega) (by omega)
       go_simp
       exact hK.out _ _ _ (by simp only [puts, Act.put, List.setIfInBounds_toArray, List.set_cons_zero, List.set_cons_succ] <;> rfl) ⟨hG, (fun h => f0.out h), (fun h => f1.out h), (fun h => f2.out h), (fun h => f3.out h), (fun h => f4.out h), (fun h => f5.out h), (fun h => f6.out h), (fun h => f7.out h), (fun _ => rfl), (fun h => (fun h => ⟨⟨h.1.1, rfl⟩, h.2⟩) (f9.out h)), (fun h => (fun h => absurd (h.1.2.symm.trans hL) (by decide)) (f10.out h))⟩
      ·intro L vs W hlen hL hD hI K hK
       obtain ⟨x0, x1, x2, x3, x4, x5, x6, x7, x8, x9, x10, rfl⟩ := len11 hlen
       have hG := hI.1
       replace hI := hI.2
       have f0 := hide hI.1
       replace hI := hI.2
       have f1 := hide hI.1
       replace hI := hI.2
       have f2 := hide hI.1
       replace hI := hI.2
       have f3 := hide hI.1
       replace hI := hI.2
       have f4 := hide hI.1
       replace hI := hI.2
       have f5 := hide hI.1
       replace hI := hI.2
       have f6 := hide hI.1
       replace hI := hI.2
       have f7 := hide hI.1
       replace hI := hI.2
       have f8 := hide hI.1
       replace hI := hI.2
       have f9 := hide hI.1
       replace hI := hI.2
       have f10 := hide hI
       clear hI
       obtain rfl := f2.out (hD.on 2 (by kernel_rfl))
       obtain rfl := f8.out (hD.on 8 (by kernel_rfl))
       try simp only [puts, Act.put, List.setIfInBounds_toArray, List.set_cons_zero, List.set_cons_succ]
       try go_simp
       exact hK.out _ _ _ (by simp only [puts, Act.put, List.setIfInBounds_toArray, List.set_cons_zero, List.set_cons_succ] <;> rfl) ⟨hG, (fun h => f0.out h), (fun h => f1.out h), (fun h => f2.out h), (fun h => f3.out h), (fun h => f4.out h), (fun h => f5.out h), (fun h => f6.out h), (fun h => f7.out h), (fun h => f8.out h), (fun _ => ⟨⟨hD.on 2 (by kernel_rfl), hD.on 8 (by kernel_rfl)⟩, rfl⟩), (fun h => f10.out h)⟩
      ·intro L vs W hlen hL hD hI K hK
       obtain ⟨x0, x1, x2, x3, x4, x5, x6, x7, x8, x9, x10, rfl⟩ := len11 hlen
       have hG := hI.1
       replace hI := hI.2
       have f0 := hide hI.1
       replace hI := hI.2
       have f1 := hide hI.1
       replace hI := hI.2
       have f2 := hide hI.1
       replace hI := hI.2
       have f3 := hide hI.1
       replace hI := hI.2
       have f4 := hide hI.1
       replace hI := hI.2
       have f5 := hide hI.1
       replace hI := hI.2
       have f6 := hide hI.1
       replace hI := hI.2
       have f7 := hide hI.1
       replace hI := hI.2
       have f8 := hide hI.1
       replace hI := hI.2
       have f9 := hide hI.1
       replace hI := hI.2
       have f10 := hide hI
       clear hI
       obtain rfl := f0.out (hD.on 0 (by kernel_rfl))
       obtain rfl := f1.out (hD.on 1 (by kernel_rfl))
       have g9 := f9.out (hD.on 9 (by kernel_rfl))
       try simp only [puts, Act.put, List.setIfInBounds_toArray, List.set_cons_zero, List.set_cons_succ]
       obtain ⟨hm, hbl⟩ := hG.2 hL
       obtain ⟨⟨h2, h8⟩, rfl⟩ := g9
       obtain ⟨W', hput, hm', hgr⟩ := hm.put h1000 (x := X) (by omega) (by omega) (IntKind.i64.wrap (h' X + h' LX))
       go_simp
       exact hK.out _ undef _ (by simp only [puts, Act.put, List.setIfInBounds_toArray, List.set_cons_zero, List.set_cons_succ] <;> rfl) ⟨⟨hm.blk hgr hG.1, fun h => by cases h⟩, (fun h => f0.out h), (fun h => f1.out h), (fun h => f2.out h), (fun h => f3.out h), (fun h => f4.out h), (fun h => f5.out h), (fun h => f6.out h), (fun h => f7.out h), (fun h => f8.out h), (fun h => f9.out h), (fun _ => ⟨⟨h2, h8⟩, hm', grown2O (grownSO hbl _) hgr⟩)⟩
     intro L vs W hlen hall hI
     obtain ⟨x0, x1, x2, x3, x4, x5, x6, x7, x8, x9, x10, rfl⟩ := len11 hlen
     have hG := hI.1
     replace hI := hI.2
     have f0 := hide hI.1
     replace hI := hI.2
     have f1 := hide hI.1
     replace hI := hI.2
     have f2 := hide hI.1
     replace hI := hI.2
     have f3 := hide hI.1
     replace hI := hI.2
     have f4 := hide hI.1
     replace hI := hI.2
     have f5 := hide hI.1
     replace hI := hI.2
     have f6 := hide hI.1
     replace hI := hI.2
     have f7 := hide hI.1
     replace hI := hI.2
     have f8 := hide hI.1
     replace hI := hI.2
     have f9 := hide hI.1
     replace hI := hI.2
     have f10 := hide hI
     clear hI
     obtain rfl := f0.out (hall 0 (by decide))
     obtain rfl := f1.out (hall 1 (by decide))
     obtain rfl := f2.out (hall 2 (by decide))
     obtain rfl := f3.out (hall 3 (by decide))
     obtain rfl := f4.out (hall 4 (by decide))
     obtain rfl := f5.out (hall 5 (by decide))
     obtain rfl := f6.out (hall 6 (by decide))
     obtain rfl := f7.out (hall 7 (by decide))
     obtain rfl := f8.out (hall 8 (by decide))
     have g9 := f9.out (hall 9 (by decide))
     have g10 := f10.out (hall 10 (by decide))
     have hal := hide hall
     clear hall f0 f1 f2 f3 f4 f5 f6 f7 f8 f9 f10
     try simp only [puts, Act.put, List.setIfInBounds_toArray, List.set_cons_zero, List.set_cons_succ]
     obtain ⟨-, hm2, hgr⟩ := g10
     obtain ⟨-, rfl⟩ := g9
     have HM2 := hide hm2
     have HGR := hide hgr
     clear hm2 hgr hG hal
     gi_wp2_with fail
     go_roundw
     case rel =>
      have hgr := HGR.out
      have hv := HV.out
      refine ⟨v + 1, _, clk' + 1, by omega, by go_num, HM2.out, by have := HM'.out.1; omega, fun y hy => ?_, fun hp => ?_, HMX.out.blk hgr HBO.out, HMX.out.blk hgr bM', ?_, Nat.le_trans hs' hgr.size, HK1.out.trans ⟨hgr.os, hgr.tape, hgr.output, hgr.size, fun k hk hne => hgr.block k (by omega) (by intro e; exact hne (Option.some.inj e))⟩, HK2.out.trans (KeepsFrom.of_grownBy hgr (fun j e => by cases e; exact hsY))⟩
      ·unfold setW; rw [if_neg hy]; exact HO.out y hy
      ·obtain ⟨p1, p2, p3⟩ := pref_snoc _ hp
       obtain ⟨q1, -, -⟩ := HLo.out (HG.out ((List.prefix_append pre [x]).trans hp)) hp
       have hP := HP.out
       rw [← hP] at p1 p2 p3
       have h1 := HSO.out.1
       have h2 := HLS.out
       have hX0 : X ≠ 0 := by omega
       have hs := HS.out
       rw [if_pos rfl, ← h2] at hs
       unfold setW
       rw [if_pos rfl, if_neg hX0, HLv.out hp, if_neg hX0, HO.out _ (by omega), q1 LX (by omega)]
       exact way_sum HPO.out hn8 p3 hX0 p2 hv hs
      ·have hw' := HWW.out
       exact ⟨hgr.os.trans hw'.os, hgr.tape.trans hw'.tape, hgr.output.trans hw'.output, Nat.le_trans hw'.size hgr.size, fun k hk => (hgr.block k (by have := hw'.size; omega) (by intro e; have e := Option.some.inj e; omega)).trans (hw'.block k hk)⟩
     case measure => have := HV.out; simp [intOf]; omega
   ·obtain rfl : v = n := by omega
    gi_wp2_with fail
    exact ⟨hk2, hk1, h', clk', m', by simp; omega, fun hp => HN.out h' (HG.out ((List.prefix_append pre [x]).trans hp)) hp hO (hM hp), bO', bM', hw', hs'⟩
 case done =>
  rintro D ys W hD rfl ⟨h, clk, m, -, hG, bO, bM, hw, hs⟩ hK
  have hG := ways_full hn8 (hG (List.prefix_refl _)) (S := 2 ^ n - 1) (by have := Nat.two_pow_pos n; omega)
  rw [ways_all] at hG
  obtain ⟨T, hT⟩ : ∃ T : Nat, 2 ^ n = T := ⟨_, rfl⟩
  have hwp : IntKind.i64.wrap (2 ^ n) = (T : Int) := by rw [← hT]; exact wrap_pow hn8
  have hwp6 : wrap64 (2 ^ n) = (T : Int) := by rw [← hT]; exact wrapw hn8
  have hT1 : 1 ≤ T := by rw [← hT]; exact Nat.two_pow_pos n
  have hT2 : T ≤ 256 := by rw [← hT]; exact h2n
  rw [hT] at hG
  clear hT h2n HS hG0
  have o0 := bO.cell 0 rfl
  have M0 := bM.cell 0 rfl
  have hl := m.atN hT1 hT2 hG
  have hl2 := (m.later (Below.refl _ _).drew).atN hT1 hT2 hG
  have hws := wrap_pred hT1 hT2
  gi_upto_region 13 with (fail)
  refine wpIn_wide.2 ?_
  refine wp_region_still_tail 6 (by kernel_rfl) (by kernel_rfl) ?_
  simp only [List.take_succ_cons, List.take_zero, List.drop_succ_cons, List.drop_zero]
  repeat (with_reducible refine wpStill_step (fun K hK => ?_) ; go_simp ; with_reducible refine hK _ ?_ ; clear hK K)
  refine wpStill_nil ?_
  change wpList _ _ _ _ _ W.drew
  have hbd : Below W.heap.size W W.drew := (Below.refl _ _).drew
  have hK2 : W.drew.heap[D]? = some (.deferred (some [])) := hK
  have hws2 := hw.size
  have hw2 := below2 hw hbd
  generalize World.drew W = V at hbd hK2 hw2 ⊢
  clear hl hl2 m o0 M0 bO bM hws hwp hwp6
  go_wp2_with fail
  gi_wp2
  refine ⟨by simp, .inl ⟨_, _, rfl, run_takeDeferred hK2, ?_⟩⟩
  have hwz := hwW.size
  exact ⟨_, results_tmp2 rfl _ _ _, rfl, hw2.trans (belowK_b (w := w) (Nat.le_refl _) V D _ _ (Nat.le_trans hwz hD) hK2 rfl rfl)⟩
 case stop =>
  rintro D c pre W _ _ h _
  exact h.elim
end Go.Proofs.YtnidcoinfmcffaaDoor
