/- The walk of OrderLines. Conditions: how the arguments and the tables of math/bits lie in memory; that integers are of 64 bits. -/
import Derived.Test.YtnidcoinfmcffaaDoorOtI
import Derived.Test.YtnidcoinfmcffaaDoorOuP
import Derived.Deep.DeepCutAuto
namespace Go.Proofs.YtnidcoinfmcffaaDoor
open Go.RowKit
attribute [local go_sem] Oper.semAt_some
theorem made_split (n : Int) (xs : List (Int × Int)) (line : Int) : madeO n xs line = ⟨((looseN n : Nat) : Int), (madeO n xs line).pairs⟩ := rfl
theorem mem_pref {n : Nat} {R : RelO} {S : Nat} : S ∈ prefixesO n R ↔ S < 2 ^ n ∧ prefO n R S.testBit = true := by
  unfold prefixesO
  rw [List.mem_filter, List.mem_range]
theorem pref_first (n : Nat) (R : RelO) : (prefixesO n R).getD 0 0 = 0 := by
  unfold prefixesO
  obtain ⟨m, hm⟩ : ∃ m, 2 ^ n = m + 1 := ⟨2 ^ n - 1, by have := Nat.pow_pos (n := n) (show 0 < 2 by decide); omega⟩
  have h0 : prefO n R (Nat.testBit 0) = true := by
    unfold prefO
    rw [List.all_eq_true]
    intro x _
    rw [Nat.zero_testBit]; rfl
  rw [hm, List.range_succ_eq_map, List.filter_cons, if_pos h0]; rfl
theorem pref_last {n : Nat} {R : RelO} (h : PoO n R) : (prefixesO n R).getD ((prefixesO n R).length - 1) 0 = 2 ^ n - 1 := by
  obtain ⟨m, hm⟩ : ∃ m, 2 ^ n = m + 1 := ⟨2 ^ n - 1, by have := Nat.pow_pos (n := n) (show 0 < 2 by decide); omega⟩
  have h0 : prefO n R (Nat.testBit m) = true := by
    have e : m = 2 ^ n - 1 := by omega
    rw [e]
    refine (pref_iff h).2 fun a x hr _ => ?_
    rw [Nat.testBit_two_pow_sub_one]
    exact decide_eq_true (h.dom a x hr).1
  unfold prefixesO
  rw [hm, List.range_succ, List.filter_append, List.filter_cons, if_pos h0, List.filter_nil]
  rw [List.length_append, List.length_singleton, Nat.add_sub_cancel, List.getD_eq_getElem?_getD, List.getElem?_append_right (Nat.le_refl _)]
  simp
theorem wrap_add {S X : Nat} (h : S + X < 256) : IntKind.i64.wrap ((S : Int) + X) = (S : Int) + X := IntWalk.i64_in _ ⟨by omega, by omega⟩
theorem take_down {n : Nat} {R : RelO} {t : List Nat} (h : PoO n R) (hl : LineO n R t) {k x a : Nat} (hx : x ∈ t.take k) (ha : R a x = true) : a ∈ t.take k := by
  have hm : a ∈ t := (hl.mem a).2 (h.dom a x ha).1
  have hasc := hl.asc
  rw [← List.take_append_drop k t] at hasc hm
  rw [List.pairwise_append] at hasc
  rcases List.mem_append.1 hm with h1 | h1
  · exact h1
  · have := hasc.2.2 x hx a h1
    rw [ha] at this; cases this
theorem pref_take {n : Nat} {R : RelO} {t : List Nat} (h : PoO n R) (hl : LineO n R t) {k S : Nat} (hS : S < 2 ^ n) (hb : ∀ x, S.testBit x = (t.take k).contains x) : S ∈ prefixesO n R :=
  mem_pref.2 ⟨hS, (pref_iff h).2 fun a x hr hx => by
    rw [hb] at hx ⊢
    simp only [List.contains_eq_mem, decide_eq_true_eq] at hx ⊢
    exact take_down h hl hx hr⟩
theorem take_new {n : Nat} {R : RelO} {t : List Nat} (hl : LineO n R t) {k : Nat} (hk : k < t.length) : (t.take k).contains (t.getD k 0) = false ∧ ∀ x, (t.take (k + 1)).contains x = ((t.take k).contains x || decide (x = t.getD k 0)) := by
  have hs := take_succ' t k 0 hk
  refine ⟨?_, fun x => ?_⟩
  · have hn : (t.take (k + 1)).Nodup := hl.nod.sublist (List.take_sublist _ _)
    rw [hs, List.nodup_append] at hn
    simp only [List.contains_eq_mem, decide_eq_false_iff_not]
    exact fun hm => hn.2.2 _ hm _ List.mem_cons_self rfl
  · rw [hs]
    simp only [List.contains_eq_mem, List.mem_append, List.mem_singleton, Bool.decide_or]
theorem shr_mod {S k : Nat} : ((S : Int) / 2 ^ k) % 2 = ((S / 2 ^ k % 2 : Nat) : Int) := by simp
theorem shr_tmod {S k : Nat} : ((S : Int) / 2 ^ k).tmod 2 = ((S / 2 ^ k % 2 : Nat) : Int) := by
  rw [Int.tmod_eq_emod_of_nonneg (Int.ediv_nonneg (by omega) (Int.pow_nonneg (by decide))), shr_mod]
theorem bit_one {S k : Nat} : ((((S / 2 ^ k % 2 : Nat) : Int)) == 1) = S.testBit k := by
  rw [Nat.testBit_eq_decide_div_mod_eq]
  have h2 : S / 2 ^ k % 2 < 2 := Nat.mod_lt _ (by decide)
  generalize S / 2 ^ k % 2 = q at *
  show decide ((q : Int) = 1) = decide (q = 1)
  rw [decide_eq_decide]; omega
theorem filter_take2 (f : Nat → Bool) {l : List Nat} {k : Nat} (hk : k < l.length) : natsO ((l.take (k + 1)).filter f) = natsO ((l.take k).filter f) ++ if f (l.getD k 0) then [((l.getD k 0 : Nat) : Int)] else [] := by
  rw [take_succ' l k 0 hk, List.filter_append, List.filter_cons, List.filter_nil]
  unfold natsO
  rw [List.map_append]
  split <;> rfl
/-- two lists of one's own that lie apart -/
structure TwoL (w : World) (B : Nat) (v u : Value) (l m : List Int) : Prop where
  o1 : OwnI w B v l
  o2 : OwnI w B u m
  ap : ∀ g, v.ownBlock = some g → u.ownBlock ≠ some g
theorem TwoL.put1 {w w' : World} {B : Nat} {v u v' : Value} {l m l' : List Int} (h : TwoL w B v u l m) (ho : OwnI w' B v' l') (hE : Eff (fun k => some k = v.ownBlock) w w') (hob : v'.ownBlock = v.ownBlock ∨ ∀ g, v'.ownBlock = some g → w.heap.size ≤ g) : TwoL w' B v' u l' m := by
  refine ⟨ho, OwnI.eff h.o2 hE (fun g e hg => h.ap g hg.symm e), fun g e1 e2 => ?_⟩
  rcases hob with h1 | h1
  · exact h.ap g (h1 ▸ e1) e2
  · have := h1 g e1
    have := (h.o2.ltB e2).2
    omega
theorem TwoL.put2 {w w' : World} {B : Nat} {v u u' : Value} {l m m' : List Int} (h : TwoL w B v u l m) (ho : OwnI w' B u' m') (hE : Eff (fun k => some k = u.ownBlock) w w') (hob : u'.ownBlock = u.ownBlock ∨ ∀ g, u'.ownBlock = some g → w.heap.size ≤ g) : TwoL w' B v u' l m' := by
  refine ⟨OwnI.eff h.o1 hE (fun g e hg => h.ap g e hg.symm), ho, fun g e1 e2 => ?_⟩
  rcases hob with h1 | h1
  · exact h.ap g e1 (h1 ▸ e2)
  · have := h1 g e2
    have := (h.o1.ltB e1).2
    omega
/-- the table of ways -/
def waC (f : Nat → Nat) (T : Nat) : List Value := (List.range T).map fun S => Value.int .i64 ((f S : Nat) : Int)
theorem waC_get (f : Nat → Nat) {T S : Nat} (h : S < T) : (waC f T)[S]? = some (Value.int .i64 ((f S : Nat) : Int)) := by
  unfold waC
  rw [List.getElem?_map, List.getElem?_range h]; rfl
theorem waC_set (f : Nat → Nat) (T S v : Nat) : (waC f T).set S (Value.int .i64 ((v : Nat) : Int)) = waC (fun y => if y = S then v else f y) T := by
  unfold waC
  apply List.ext_getElem?
  intro i
  rw [List.getElem?_set]
  by_cases e : S = i
  · subst e
    simp only [if_pos, List.length_map, List.length_range, List.getElem?_map]
    by_cases h : S < T
    · rw [if_pos h, List.getElem?_range h]; simp
    · rw [if_neg h, List.getElem?_eq_none (by simpa using h)]; rfl
  · rw [if_neg e]
    simp only [List.getElem?_map]
    by_cases h : i < T
    · rw [List.getElem?_range h]; simp [Ne.symm e]
    · rw [List.getElem?_eq_none (by simpa using h)]; rfl
theorem waC_zero (T : Nat) : (List.replicate T (0 : Int)).map (Value.int .i64) = waC (fun _ => 0) T := by
  unfold waC
  rw [List.map_replicate]
  apply List.ext_getElem?
  intro i
  rw [List.getElem?_map]
  by_cases h : i < T
  · rw [List.getElem?_range h, List.getElem?_replicate, if_pos h]; rfl
  · rw [List.getElem?_replicate, if_neg h, List.getElem?_eq_none (by simpa using h)]; rfl
/-- what stands while the lines are looked at -/
structure LinG (w : World) (P N : Nat) (ps : List (Int × Int)) (PF FL t : List Nat) (pv av fv tv : Value) (W : World) : Prop where
  bP : Blk W P [.int .i64 (N : Nat), pv] 25
  hp : PairsIn W.cell? pv ps
  ha : IntsIn W.cell? av (natsO PF)
  hf : IntsIn W.cell? fv (natsO FL)
  ht : IntsIn W.cell? tv (natsO t)
  hb : Below w.heap.size w W
theorem LinG.later {w : World} {P N : Nat} {ps : List (Int × Int)} {PF FL t : List Nat} {pv av fv tv : Value} {W W' : World} (h : LinG w P N ps PF FL t pv av fv tv W) (hb : Below W.heap.size W W') : LinG w P N ps PF FL t pv av fv tv W' :=
  ⟨h.bP.later hb, h.hp.below hb, ints_bel h.ha hb, ints_bel h.hf hb, ints_bel h.ht hb, below2 h.hb hb⟩
theorem wrap_sub {p X : Nat} (h : X ≤ p) (hp : p < 256) : IntKind.i64.wrap ((p : Int) - X) = ((p - X : Nat) : Int) := by
  rw [show ((p - X : Nat) : Int) = (p : Int) - X by omega]
  exact IntWalk.i64_in _ ⟨by omega, by omega⟩
theorem way_pre {p a T : Nat} (hp : p < T) (hT : T ≤ 256) (ha : a < 9) (h : p.testBit a = true) : ∃ X q : Nat, wrap64 (2 ^ a) = (X : Int) ∧ IntKind.i64.wrap (2 ^ a) = (X : Int) ∧ p - 2 ^ a = q ∧ IntKind.i64.wrap ((p : Int) - X) = (q : Int) ∧ q < T ∧ (q : Int) < T ∧ ¬ (q : Int) < 0 ∧ decide (T ≤ q) = false := by
  have h1 : 2 ^ a ≤ p := Nat.ge_two_pow_of_testBit h
  have ha8 : a < 8 := by
    refine Nat.lt_of_not_le fun h8 => ?_
    have : 2 ^ 8 ≤ 2 ^ a := Nat.pow_le_pow_right (by decide) h8
    have e : (2 : Nat) ^ 8 = 256 := rfl
    rw [e] at this
    exact absurd (Nat.le_trans this h1) (by omega)
  refine ⟨2 ^ a, p - 2 ^ a, wrapw (by omega), wrap_pow (by omega), rfl, ?_, ?_, ?_, ?_, ?_⟩
  · exact wrap_sub h1 (by omega)
  · exact Nat.lt_of_le_of_lt (Nat.sub_le _ _) hp
  · exact Int.ofNat_lt.2 (Nat.lt_of_le_of_lt (Nat.sub_le _ _) hp)
  · omega
  · exact decide_eq_false (Nat.not_le.2 (Nat.lt_of_le_of_lt (Nat.sub_le _ _) hp))
theorem wrap_addN {u v : Nat} (hu : u ≤ 16777217) (hv : v ≤ 16777216) : IntKind.i64.wrap ((u : Int) + v) = ((u + v : Nat) : Int) := by
  rw [show ((u + v : Nat) : Int) = (u : Int) + v by omega]
  exact IntWalk.i64_in _ ⟨by omega, by omega⟩
set_option maxRecDepth 100000 in
set_option maxHeartbeats 4000000 in
theorem lines_any (n : Int) (xs : List (Int × Int)) (xv : Value) (line : Int) (ys : List Int) (yv : Value) (w : World) (hn : i64B n) (hx : PairsIn w.cell? xv xs) (h64 : ∀ p ∈ xs, i64B p.1 ∧ i64B p.2) (hl : i64B line) (hy : IntsIn w.cell? yv ys) (hy64 : ∀ x ∈ ys, i64B x) (hGl : Glob w) :
    Calls Tryd.prog 4 #[.int .i64 n, xv, .int .i64 line, yv] w (Ret (.bool true) w) := by
  have HMD := hide (fun W (hb : Below w.heap.size w W) => made_any n xs line xv W hn hl (RecIn.below hb hx) h64)
  have hN8 := looseN_le n
  have hvd := made_valid n xs line
  rw [made_split] at hvd
  have hpl := made_len n xs line
  generalize (madeO n xs line).pairs = ps at *
  generalize looseN n = N at *
  have HPO := hide (show PoO N (beforeO ⟨(N : Int), ps⟩) from before_po hvd)
  have HVD := hide hvd
  obtain ⟨xa, xc, rfl, -, -, -⟩ := id hx
  clear hx h64 hn hl hvd
  have HPX := hide (fun pv W hp => prefixes_yes N ps pv W hp HVD.out)
  have HLX := hide (fun pv W hp => line_yes N ps pv W hp HVD.out)
  have HNX := hide (fun pv W hp => lines_yes N ps pv W hp HVD.out)
  have HCX := hide (fun pv W hp hq => chosen_any N ps pv ys yv W hp hq hy64 HVD.out)
  have HIL := hide (fun pv lv l W hp hq => isline_yes N ps pv lv l W hp hq HVD.out)
  have HY := hide hy
  obtain ⟨ya, yc, rfl, -, -, -⟩ := id hy
  clear hy hy64
  generalize hRR : beforeO ⟨(N : Int), ps⟩ = R0 at *
  have hll := line_is HPO.out
  have HFI := hide ((isLine_iff HPO.out).2 ⟨_, rfl, hll⟩)
  have hfl := hll.len
  have HFLen := hide hfl
  generalize lineO N R0 = FL at *
  have HMM := hide (fun S => mem_pref (n := N) (R := R0) (S := S))
  have HP00 : Hid (prefO N R0 (Nat.testBit 0) = true) := hide (by
    unfold prefO
    rw [List.all_eq_true]
    intro x _
    rw [Nat.zero_testBit]; rfl)
  have HPF0 : Hid ((prefixesO N R0).getD 0 0 = 0) := hide (pref_first N R0)
  have HPFN : Hid ((prefixesO N R0).getD ((prefixesO N R0).length - 1) 0 = 2 ^ N - 1) := hide (pref_last HPO.out)
  have HPL : Hid ((prefixesO N R0).length ≤ 256) := hide (Nat.le_trans (List.length_filter_le _ _) (by rw [List.length_range]; exact pow_256 hN8))
  have HPT := hide (fun t (hl : LineO N R0 t) k S (hS : S < 2 ^ N) hb => pref_take HPO.out hl (k := k) (S := S) hS hb)
  have HWN := hide (fun k p a (hp : p < 2 ^ N) h hn => wayP_none (n := N) (R := R0) ((prefixesO N R0).take k) (p := p) (a := a) hp h hn)
  have HWA := hide (fun k a hk hp h hn => wayP_add (n := N) (R := R0) (k := k) (a := a) hk hp h hn)
  have HWE := hide (fun k hk => wayP_end HPO.out hN8 (k := k) hk)
  have HWZ := hide (fun k hk h0 => wayP_zero N R0 ((prefixesO N R0).take k) (p := (prefixesO N R0).getD k 0) h0 (by
    simp only [List.contains_eq_mem, decide_eq_false_iff_not]
    exact fun hm => Nat.lt_irrefl _ ((take_asc (pref_asc N R0) hk).1 hm).2))
  have HWL := hide (wayT_last HPO.out)
  have HLP := hide (lines_pos HPO.out hN8)
  have HWS := hide (fun P p a (hp : p < 2 ^ N) ha hpr => wayP_small HPO.out hN8 P (p := p) (a := a) hp ha hpr)
  have HWB := hide (fun S (hS : S < 2 ^ N) => ways_small HPO.out hN8 hS)
  generalize prefixesO N R0 = PF at *
  generalize (linesO N R0).length = LN at *
  clear hRR hll
  go_enter Tryd.func4, Tryd.ntmps4
  go_wp2_with fail
  refine (sane_any w hGl).mono ?_
  rintro e w1 ⟨rfl, hb1⟩
  have hGl1 := hGl.later hb1
  clear hGl
  go_wp2_with fail
  refine (HMD.out _ hb1).mono ?_
  rintro e w2 ⟨pv, rfl, hO, hb2⟩
  have hp2 : PairsIn w2.cell? pv ps := RecIn.at (RecIn.of_own hO (fun _ => rfl) (Nat.le_refl _))
  have hw2 := below2 hb1 hb2
  have hGl2 := hGl1.later hb2
  obtain ⟨pa, pc, rfl⟩ := OwnR.formE hO
  rw [List.length_map] at hp2 ⊢
  clear hO hb1 hb2 hGl1 HMD
  go_upto_region 5 with (fail)
  generalize hY1 : World.alloc w2 _ = Y1
  have zY1 : Y1.heap.size = w2.heap.size + 1 := by rw [← hY1]; simp
  have bY1 : Below w2.heap.size w2 Y1 := by rw [← hY1]; exact bal w2 _
  have bP : Blk Y1 (w2.heap.size) [.int .i64 (N : Nat), .slice pa ps.length pc] 25 := by rw [← hY1]; exact Blk.newA w2 _ (by first | rfl | simp)
  have Yb := bY1
  have Yz := zY1
  clear hY1 zY1 bY1
  have hpY := RecIn.below Yb hp2
  have hwY := below2 hw2 Yb
  have HGL := hide (hGl2.later Yb)
  obtain ⟨P, hP⟩ : ∃ P, w2.heap.size = P := ⟨_, rfl⟩
  rw [hP] at bP ⊢
  clear hp2 hw2 hGl2 Yb Yz hP
  have c0 := bP.cell 0 rfl
  have c1 := bP.cell 1 rfl
  have HYY := hide (ints_bel HY.out hwY)
  go_wp2_with fail
  refine (HPX.out _ _ hpY).mono ?_
  rintro e w3 ⟨av, rfl, hv, hb3⟩
  have hi3 := IntsIn.at hv
  have bP3 := bP.later hb3
  have hp3 := hpY.below hb3
  have hw3 := below2 hwY hb3
  have hy3 := ints_bel HYY.out hb3
  clear hv hb3 bP hpY hwY c0 c1 HPX HYY HY HGL
  have c0 := bP3.cell 0 rfl
  have c1 := bP3.cell 1 rfl
  go_wp2_with fail
  refine (HLX.out _ _ hp3).mono ?_
  rintro e w4 ⟨fv, rfl, hv, hb4⟩
  have hf4 := IntsIn.at hv
  have hi4 := ints_bel hi3 hb4
  have bP4 := bP3.later hb4
  have hp4 := hp3.below hb4
  have hw4 := below2 hw3 hb4
  have hy4 := ints_bel hy3 hb4
  clear hv hb4 hi3 bP3 hp3 hw3 hy3 c0 c1 HLX
  have c0 := bP4.cell 0 rfl
  have c1 := bP4.cell 1 rfl
  go_wp2_with fail
  refine (HNX.out _ _ hp4).mono ?_
  rintro e w5 ⟨rfl, hb5⟩
  have hf5 := ints_bel hf4 hb5
  have hi5 := ints_bel hi4 hb5
  have bP5 := bP4.later hb5
  have hp5 := hp4.below hb5
  have hw5 := below2 hw4 hb5
  have hy5 := ints_bel hy4 hb5
  clear hb5 hf4 hi4 bP4 hp4 hw4 hy4 c0 c1 HNX
  have c0 := bP5.cell 0 rfl
  have c1 := bP5.cell 1 rfl
  go_wp2_with fail
  refine (HCX.out _ _ hp5 hy5).mono ?_
  rintro e w6 ⟨tv, t, rfl, hlt, hO, hb6⟩
  have HG6 : Hid (LinG w P N ps PF FL t _ av fv tv w6) := hide ⟨bP5.later hb6, hp5.below hb6, ints_bel hi5 hb6, ints_bel hf5 hb6, hO.ints, below2 hw5 hb6⟩
  have HTI := hide ((isLine_iff HPO.out).2 ⟨_, rfl, hlt⟩)
  have HLT := hide hlt
  clear hlt hO hb6 hi5 hf5 bP5 hp5 hw5 hy5 c0 c1 HCX
  have c0 := HG6.out.bP.cell 0 rfl
  have c1 := HG6.out.bP.cell 1 rfl
  obtain ⟨aa, ac, rfl, -, -⟩ := ints_natf HG6.out.ha
  have hP0 : 0 < PF.length := List.length_pos_iff.2 (fun e => by have h := (HMM.out 0).2 ⟨Nat.pow_pos (by decide), HP00.out⟩; rw [e] at h; cases h)
  have hPz : ¬ PF.length = 0 := by omega
  have hPzB : ((PF.length : Int) == 0) = false := beq_eq_false_iff_ne.2 (by omega)
  obtain ⟨ab, ao, rfl, -⟩ := ints_nat HG6.out.ha hP0
  have hPl : PF.length ≤ 256 := HPL.out
  have q1 := ints_nat2 HG6.out.ha hP0
  have q2 := ints_nat2 HG6.out.ha (k := PF.length - 1) (by omega)
  rw [HPF0.out, Nat.add_zero] at q1
  rw [HPFN.out] at q2
  obtain ⟨T, hT⟩ : ∃ T, 2 ^ N = T := ⟨_, rfl⟩
  have hT0 : 0 < T := by rw [← hT]; exact Nat.pow_pos (by decide)
  have hT256 : T ≤ 256 := by rw [← hT]; exact pow_256 hN8
  have hw64 : wrap64 (2 ^ N) = (T : Int) := by rw [← hT]; exact wrapw hN8
  have hw65 : IntKind.i64.wrap (2 ^ N) = (T : Int) := by rw [← hT]; exact wrap_pow hN8
  have hw66 : IntKind.i64.wrap ((T : Int) - 1) = (T : Int) - 1 := IntWalk.i64_in _ ⟨by omega, by omega⟩
  have hw67 : IntKind.i64.wrap ((PF.length : Int) - 1) = (PF.length : Int) - 1 := IntWalk.i64_in _ ⟨by omega, by omega⟩
  have hw68 : (0 : Int) ≤ (PF.length : Int) - 1 := by omega
  have hw69 : ((PF.length : Int) - 1).toNat = PF.length - 1 := by omega
  have HTT := hide hT
  rw [hT] at q2
  rw [show ((T - 1 : Nat) : Int) = (T : Int) - 1 by omega] at q2
  clear hT
  have d0 : ∀ i : Bw w6.heap.size w6, i.W.cell? ⟨P, 0, none⟩ = some _ := bwc c0
  have d1 : ∀ i : Bw w6.heap.size w6, i.W.cell? ⟨P, 1, none⟩ = some _ := bwc c1
  have e1 : ∀ i : Bw w6.heap.size w6, i.W.cell? ⟨ab, ao, none⟩ = some _ := bwc q1
  have e2 : ∀ i : Bw w6.heap.size w6, i.W.cell? ⟨ab, ao + (PF.length - 1), none⟩ = some _ := bwc q2
  have HC1 : Hid (∀ (i : Bw w6.heap.size w6) (lv : Value), (lv = fv ∨ lv = tv) → Calls Tryd.prog 22 #[orderV N (.slice pa ps.length pc), lv] i.W (Ret (.bool true) i.W)) := hide (fun i lv hlv => by
    rcases hlv with rfl | rfl
    · have h := HIL.out _ _ (natsO FL) i.W (HG6.out.hp.below i.h) (ints_bel HG6.out.hf i.h)
      rw [HFI.out] at h; exact h
    · have h := HIL.out _ _ (natsO t) i.W (HG6.out.hp.below i.h) (ints_bel HG6.out.ht i.h)
      rw [HTI.out] at h; exact h)
  clear c0 c1 q1 q2
  go_upto_region 9 with (fail)
  refine wp_region_bw (by kernel_rfl) (by kernel_rfl) ?_
  repeat (go_big_quiet_step ((go_at_call 22; exact quiet (HC1.out _ _ (by simp)))))
  refine wpQuiet_nil ?_
  rintro _ ⟨i, rfl⟩
  have HG7 := hide (HG6.out.later i.h)
  clear d0 d1 e1 e2 HC1 HG6 hw66 hw67 hw68 hw69 HFI HTI
  generalize i.W = w7 at *
  obtain ⟨ta, tc, rfl, -, -⟩ := ints_natf HG7.out.ht
  have htN := HLT.out.len
  rw [htN] at HG7 ⊢
  go_wp2_with fail
  go_loopw [18, 19] (fun s i wz => ∃ k S : Nat, k ≤ N ∧ s = .int .i64 (S : Nat) ∧ i = .int .i64 k ∧ S < 2 ^ N ∧ Hid (∀ x, S.testBit x = (t.take k).contains x) ∧ wz = w7) (fun _ i _ => N - (intOf i).toNat)
  case atStart => exact ⟨0, 0, by omega, rfl, rfl, Nat.pow_pos (by decide), hide (fun x => by rw [Nat.zero_testBit]; rfl), rfl⟩
  case round =>
    obtain ⟨k, S, hk, rfl, rfl, hS, HSB, hwz⟩ := hrel
    subst hwz
    by_cases hlk : k < N
    · have hlkI : (k : Int) < N := by omega
      have HK := hide hlk
      have hkt : k < t.length := by omega
      obtain ⟨tb, tq, rfl, q3⟩ := ints_nat HG7.out.ht hkt
      have hxN : t.getD k 0 < N := (HLT.out.mem _).1 (getD_mem t k (d := 0) hkt)
      have hin : inI (natsO PF) (S : Int) = true := by rw [inI_nats]; simpa using HPT.out t HLT.out k S hS HSB.out
      obtain ⟨hnew, hnx⟩ := take_new HLT.out hkt
      obtain ⟨hsi, hsb⟩ := set_in_n hN8 hS hxN (by rw [HSB.out]; exact hnew)
      have HS2 : Hid (∀ x, (S + 2 ^ t.getD k 0).testBit x = (t.take (k + 1)).contains x) := hide (fun x => by rw [hsb, HSB.out, hnx])
      have HSI := hide hsi
      have HIN := hide (in_any (natsO PF) (S : Int) _ wr HG7.out.ha)
      rw [hin] at HIN
      obtain ⟨x, hx⟩ : ∃ x, t.getD k 0 = x := ⟨_, rfl⟩
      rw [hx] at q3 hxN HS2 HSI
      have hx8 : x < 8 := by omega
      have hx0 : ¬ (x : Int) < 0 := by omega
      have hsi2 := HSI.out
      obtain ⟨X, hX⟩ : ∃ X, 2 ^ x = X := ⟨_, rfl⟩
      have hwX : wrap64 (2 ^ x) = (X : Int) := by rw [← hX]; exact wrapw (by omega)
      have hwY : IntKind.i64.wrap (2 ^ x) = (X : Int) := by rw [← hX]; exact wrap_pow (by omega)
      rw [hX] at HS2 HSI hsi2
      have hP256 := pow_256 hN8
      have hwS := wrap_add (Nat.lt_of_lt_of_le hsi2 hP256)
      clear hin hnew hnx hsi hsb hx hX hsi2 hP256
      go_wp2_with fail
      refine HIN.out.mono ?_
      rintro e w8 ⟨rfl, hw8⟩
      obtain rfl := hw8
      go_wp2_with fail
      clear q3 hwX hwY hwS
      go_roundw
      case rel => exact ⟨k + 1, S + X, by have := HK.out; omega, by go_num, by go_num, HSI.out, HS2, by trivial⟩
      case measure => have := HK.out; simp [intOf]; omega
    · obtain rfl : N = k := by omega
      have c0 := HG7.out.bP.cell 0 rfl
      have hmk := @mkInts T (by omega)
      go_wp2_with fail
      generalize hZ : World.alloc wr _ = Z1
      obtain ⟨Wb, hWb⟩ : ∃ Wb, wr.heap.size = Wb := ⟨_, rfl⟩
      have bW0 : Blk Z1 wr.heap.size ((List.replicate T (0 : Int)).map (Value.int .i64)) 3 := by rw [← hZ]; exact Blk.newA wr _ (by simp)
      have hZb : Below wr.heap.size wr Z1 := by rw [← hZ]; exact bal wr _
      rw [waC_zero] at bW0
      have HGA := hide (fun W (hW : Below wr.heap.size wr W) => HG7.out.later hW)
      have HZ8 := hide hZb
      clear c0 hmk hZ hZb HG7
      have HZB : Hid (Wb < Z1.heap.size) := hide (by rw [← hWb]; exact bW0.lt)
      rw [hWb] at bW0 HGA HZ8 ⊢
      generalize wr = W0 at *
      have HPN := hide (fun i (hi : i < PF.length) => (HMM.out _).1 (getD_mem PF i (d := 0) hi))
      have hPI : (PF.length : Int) ≤ 9223372036854775807 := by omega
      have HB0 : Hid (Blk Z1 Wb (waC (wayT N R0 (PF.take 0)) T) 3) := hide bW0
      have HWW := hide hWb
      clear bW0 hWb
      go_loopw [21] (fun i wz => ∃ k : Nat, k ≤ PF.length ∧ i = .int .i64 k ∧ Blk wz Wb (waC (wayT N R0 (PF.take k)) T) 3 ∧ Below Wb W0 wz) (fun i _ => PF.length - (intOf i).toNat)
      case atStart => exact ⟨0, by omega, rfl, HB0.out, HZ8.out⟩
      case round =>
        obtain ⟨k, hk, rfl, hB, hbW⟩ := hrel
        have HB := hide hB
        have HBB := hide hbW
        have HG := hide (HGA.out _ hbW)
        clear hB hbW HB0 HZ8
        by_cases hlk : k < PF.length
        · have hlkI : (k : Int) < PF.length := by omega
          have HK := hide hlk
          have q1 := ints_nat2 HG.out.ha hlk
          obtain ⟨hpT, hpp⟩ := HPN.out k hlk
          rw [HTT.out] at hpT
          obtain ⟨p, hp⟩ : ∃ p, PF.getD k 0 = p := ⟨_, rfl⟩
          rw [hp] at q1 hpT hpp
          have HPP := hide hpp
          have HPK := hide hp
          have hpTI : (p : Int) < T := by omega
          have hp0 : ¬ (p : Int) < 0 := by omega
          have hpT2 : ¬ (T : Int) ≤ p := by omega
          have hpT3 : decide (T ≤ p) = false := decide_eq_false (by omega)
          clear hpp hp
          go_wp2_with fail
          clear q1
          generalize wr = w8 at *
          go_loopw [23, 24, 25] (fun v u i wz => ∃ j : Nat, j ≤ N ∧ i = .int .i64 j ∧ TwoL wz w8.heap.size v u (natsO ((t.take j).filter p.testBit)) (natsO ((t.take j).filter fun x => !p.testBit x)) ∧ Below w8.heap.size w8 wz) (fun _ _ i _ => N - (intOf i).toNat)
          case atStart => exact ⟨0, by omega, rfl, ⟨OwnI.nil _ _, OwnI.nil _ _, fun g e => by simp [Value.ownBlock] at e⟩, Below.refl _ _⟩
          case round =>
            obtain ⟨j, hj, rfl, hT2, hbz⟩ := hrel
            obtain ⟨va, vc, rfl⟩ := hT2.o1.form
            obtain ⟨ua, uc, rfl⟩ := hT2.o2.form
            have HT2 := hide hT2
            have HBZ := hide hbz
            have HGZ := hide (HG.out.later hbz)
            clear hT2 hbz
            by_cases hlj : j < N
            · have hljI : (j : Int) < N := by omega
              have HJ := hide hlj
              have hjt : j < t.length := by omega
              obtain ⟨tb, tq, rfl, q1⟩ := ints_nat HGZ.out.ht hjt
              have HF1 := hide (filter_take2 p.testBit (l := t) hjt)
              have HF2 := hide (filter_take2 (fun x => !p.testBit x) (l := t) hjt)
              have hx8 : t.getD j 0 < N := (HLT.out.mem _).1 (getD_mem t j (d := 0) hjt)
              obtain ⟨x, hx⟩ : ∃ x, t.getD j 0 = x := ⟨_, rfl⟩
              rw [hx] at q1 HF1 HF2 hx8
              have hx0 : ¬ (x : Int) < 0 := by omega
              have hl1 : (natsO ((t.take j).filter p.testBit)).length < 1000000 := by rw [natsO_len]; exact Nat.lt_of_le_of_lt (List.length_filter_le _ _) (by rw [List.length_take]; omega)
              have hl2 : (natsO ((t.take j).filter fun x => !p.testBit x)).length < 1000000 := by rw [natsO_len]; exact Nat.lt_of_le_of_lt (List.length_filter_le _ _) (by rw [List.length_take]; omega)
              generalize natsO ((t.take j).filter p.testBit) = f1 at *
              generalize natsO ((t.take j).filter fun x => !p.testBit x) = f2 at *
              have ht1 : ((p : Int) / 2 ^ x % 2 == 1) = p.testBit x := by rw [← bit_one]; rw [shr_mod]
              have ht2 : (((p : Int) / 2 ^ x).tmod 2 == 1) = p.testBit x := by rw [← bit_one]; rw [shr_tmod]
              have hsz := HBZ.out.size
              clear hx
              cases hpx : p.testBit x
              · rw [hpx] at ht1 ht2 HF1 HF2
                have hO := HT2.out.o2
                clear hpx
                go_wp2_with (at_builtin; refine app_intE rfl _ _ rfl w8.heap.size _ f2 rfl hO (x : Int) rfl hl2 hsz ?_; intro v3 w3 hO3 hE3 hob3; have HB3 := hide (HBZ.out.trans (hE3.below hsz (fun k e => (hO.ltB e.symm).1))); have HO3 := hide (HT2.out.put2 hO3 hE3 hob3); clear hO3 hE3 hob3)
                clear q1 hO
                go_roundw
                case rel => exact ⟨j + 1, by have := HJ.out; omega, by go_num, by rw [HF1.out, HF2.out]; simpa using HO3.out, HB3.out⟩
                case measure => have := HJ.out; simp [intOf]; omega
              · rw [hpx] at ht1 ht2 HF1 HF2
                have hO := HT2.out.o1
                clear hpx
                go_wp2_with (at_builtin; refine app_intE rfl _ _ rfl w8.heap.size _ f1 rfl hO (x : Int) rfl hl1 hsz ?_; intro v3 w3 hO3 hE3 hob3; have HB3 := hide (HBZ.out.trans (hE3.below hsz (fun k e => (hO.ltB e.symm).1))); have HO3 := hide (HT2.out.put1 hO3 hE3 hob3); clear hO3 hE3 hob3)
                clear q1 hO
                go_roundw
                case rel => exact ⟨j + 1, by have := HJ.out; omega, by go_num, by rw [HF1.out, HF2.out]; simpa using HO3.out, HB3.out⟩
                case measure => have := HJ.out; simp [intOf]; omega
            · obtain rfl : N = j := by omega
              have htk : t.take N = t := List.take_of_length_le (by omega)
              rw [htk] at HT2 ⊢
              have HLI : Hid (isLineB N R0 (natsO (t.filter p.testBit) ++ natsO (t.filter fun x => !p.testBit x)) = true) := hide ((isLine_iff HPO.out).2 ⟨_, by unfold natsO; rw [List.map_append], line_pref HPO.out HLT.out HPP.out⟩)
              have hl1 : (natsO (t.filter p.testBit)).length + (natsO (t.filter fun x => !p.testBit x)).length < 1000000 := by
                rw [natsO_len, natsO_len]
                have h1 := List.length_filter_le p.testBit t
                have h2 := List.length_filter_le (fun x => !p.testBit x) t
                omega
              generalize natsO (t.filter p.testBit) = m1 at *
              generalize natsO (t.filter fun x => !p.testBit x) = m2 at *
              clear htk
              go_upto_region 33 with (fail)
              refine wp_region_inv [some 165, some 166, some 167, some 168, some 169, some 170] (fun L vs W => match vs with | [x0, x1, x2, x3, x4, x5] => ((L 3 = false → TwoL W w8.heap.size (.slice va m1.length vc) (.slice ua m2.length uc) m1 m2) ∧ Below w8.heap.size w8 W) ∧ (L 0 = true → x0 = .agg #[.int .i64 (N : Nat), .slice pa ps.length pc]) ∧ (L 1 = true → x1 = .slice va m1.length vc) ∧ (L 2 = true → x2 = .slice ua m2.length uc) ∧ (L 3 = true → OwnI W w8.heap.size x3 (m1 ++ m2)) ∧ (L 4 = true → L 3 = true ∧ x4 = .bool true) ∧ (L 5 = true → x5 = .bool false) | _ => False) [_, _, _, _, _, _] (by kernel_rfl) (by kernel_rfl) rfl (by simp only [puts, Act.put, List.setIfInBounds_toArray, List.set_cons_zero, List.set_cons_succ] <;> rfl) ?_ ?_ ?_
              · exact ⟨⟨fun _ => ⟨own_later HT2.out.o1 (Below.refl _ _).drew, own_later HT2.out.o2 (Below.refl _ _).drew, HT2.out.ap⟩, HBZ.out.trans ((Below.refl _ _).drew.mono HBZ.out.size)⟩, (fun h => by cases h), (fun h => by cases h), (fun h => by cases h), (fun h => by cases h), (fun h => by cases h), (fun h => by cases h)⟩
              · refine ⟨?_, ?_, ?_, ?_, ?_, ?_, trivial⟩
                · intro L vs W hlen hL hD hI K hK
                  obtain ⟨x0, x1, x2, x3, x4, x5, rfl⟩ := len6 hlen
                  have hG := hI.1
                  replace hI := hI.2
                  have f0 := hide hI.1
                  replace hI := hI.2
                  have f1 := hide hI.1
                  replace hI := hI.2
                  have f2 := hide hI.1
                  replace hI := hI.2
                  have f3 := hide hI.1
                  replace hI := hI.2
                  have f4 := hide hI.1
                  replace hI := hI.2
                  have f5 := hide hI
                  clear hI
                  try simp only [puts, Act.put, List.setIfInBounds_toArray, List.set_cons_zero, List.set_cons_succ]
                  have z0 := (HG.out.later hG.2).bP.cell 0 rfl
                  have z1 := (HG.out.later hG.2).bP.cell 1 rfl
                  go_simp
                  exact hK.out _ _ _ (by simp only [puts, Act.put, List.setIfInBounds_toArray, List.set_cons_zero, List.set_cons_succ] <;> rfl) ⟨hG, (fun _ => rfl), (fun h => f1.out h), (fun h => f2.out h), (fun h => f3.out h), (fun h => f4.out h), (fun h => f5.out h)⟩
                · intro L vs W hlen hL hD hI K hK
                  obtain ⟨x0, x1, x2, x3, x4, x5, rfl⟩ := len6 hlen
                  have hG := hI.1
                  replace hI := hI.2
                  have f0 := hide hI.1
                  replace hI := hI.2
                  have f1 := hide hI.1
                  replace hI := hI.2
                  have f2 := hide hI.1
                  replace hI := hI.2
                  have f3 := hide hI.1
                  replace hI := hI.2
                  have f4 := hide hI.1
                  replace hI := hI.2
                  have f5 := hide hI
                  clear hI
                  try simp only [puts, Act.put, List.setIfInBounds_toArray, List.set_cons_zero, List.set_cons_succ]
                  try go_simp
                  exact hK.out _ _ _ (by simp only [puts, Act.put, List.setIfInBounds_toArray, List.set_cons_zero, List.set_cons_succ] <;> rfl) ⟨hG, (fun h => f0.out h), (fun _ => rfl), (fun h => f2.out h), (fun h => f3.out h), (fun h => f4.out h), (fun h => f5.out h)⟩
                · intro L vs W hlen hL hD hI K hK
                  obtain ⟨x0, x1, x2, x3, x4, x5, rfl⟩ := len6 hlen
                  have hG := hI.1
                  replace hI := hI.2
                  have f0 := hide hI.1
                  replace hI := hI.2
                  have f1 := hide hI.1
                  replace hI := hI.2
                  have f2 := hide hI.1
                  replace hI := hI.2
                  have f3 := hide hI.1
                  replace hI := hI.2
                  have f4 := hide hI.1
                  replace hI := hI.2
                  have f5 := hide hI
                  clear hI
                  try simp only [puts, Act.put, List.setIfInBounds_toArray, List.set_cons_zero, List.set_cons_succ]
                  try go_simp
                  exact hK.out _ _ _ (by simp only [puts, Act.put, List.setIfInBounds_toArray, List.set_cons_zero, List.set_cons_succ] <;> rfl) ⟨hG, (fun h => f0.out h), (fun h => f1.out h), (fun _ => rfl), (fun h => f3.out h), (fun h => f4.out h), (fun h => f5.out h)⟩
                · intro L vs W hlen hL hD hI K hK
                  obtain ⟨x0, x1, x2, x3, x4, x5, rfl⟩ := len6 hlen
                  have hG := hI.1
                  replace hI := hI.2
                  have f0 := hide hI.1
                  replace hI := hI.2
                  have f1 := hide hI.1
                  replace hI := hI.2
                  have f2 := hide hI.1
                  replace hI := hI.2
                  have f3 := hide hI.1
                  replace hI := hI.2
                  have f4 := hide hI.1
                  replace hI := hI.2
                  have f5 := hide hI
                  clear hI
                  obtain rfl := f1.out (hD.on 1 (by kernel_rfl))
                  obtain rfl := f2.out (hD.on 2 (by kernel_rfl))
                  try simp only [puts, Act.put, List.setIfInBounds_toArray, List.set_cons_zero, List.set_cons_succ]
                  have hT := hG.1 hL
                  refine step_intsT rfl _ _ rfl w8.heap.size (.slice va m1.length vc) m1 rfl hT.o1 (.slice ua m2.length uc) m2 rfl hT.o2.ints (by omega) hG.2.size ?_
                  intro v5 W' hO5 hE5 _
                  have hb : True := trivial
                  exact hK.out _ _ _ (by simp only [puts, Act.put, List.setIfInBounds_toArray, List.set_cons_zero, List.set_cons_succ] <;> rfl) ⟨⟨(fun h => by cases h), hG.2.trans (hE5.below hG.2.size (fun k e => (hT.o1.ltB e.symm).1))⟩, (fun h => f0.out h), (fun h => f1.out h), (fun h => f2.out h), (fun _ => hO5), (fun h => (fun h => absurd (h.1.symm.trans hL) (by decide)) (f4.out h)), (fun h => f5.out h)⟩
                · intro L vs W hlen hL hD hI K hK
                  obtain ⟨x0, x1, x2, x3, x4, x5, rfl⟩ := len6 hlen
                  have hG := hI.1
                  replace hI := hI.2
                  have f0 := hide hI.1
                  replace hI := hI.2
                  have f1 := hide hI.1
                  replace hI := hI.2
                  have f2 := hide hI.1
                  replace hI := hI.2
                  have f3 := hide hI.1
                  replace hI := hI.2
                  have f4 := hide hI.1
                  replace hI := hI.2
                  have f5 := hide hI
                  clear hI
                  obtain rfl := f0.out (hD.on 0 (by kernel_rfl))
                  have g3 := f3.out (hD.on 3 (by kernel_rfl))
                  try simp only [puts, Act.put, List.setIfInBounds_toArray, List.set_cons_zero, List.set_cons_succ]
                  have HC1 := hide (HIL.out _ x3 (m1 ++ m2) W (HG.out.later hG.2).hp g3.ints)
                  rw [HLI.out] at HC1
                  go_simp
                  refine HC1.out.mono ?_
                  rintro e W' ⟨rfl, hb⟩
                  try go_simp
                  exact hK.out _ _ _ (by simp only [puts, Act.put, List.setIfInBounds_toArray, List.set_cons_zero, List.set_cons_succ] <;> rfl) ⟨⟨fun h => absurd ((hD.on 3 (by kernel_rfl)).symm.trans h) (by decide), below2 hG.2 hb⟩, (fun h => f0.out h), (fun h => f1.out h), (fun h => f2.out h), (fun h => (fun h => own_later h hb) (f3.out h)), (fun _ => ⟨hD.on 3 (by kernel_rfl), rfl⟩), (fun h => f5.out h)⟩
                · intro L vs W hlen hL hD hI K hK
                  obtain ⟨x0, x1, x2, x3, x4, x5, rfl⟩ := len6 hlen
                  have hG := hI.1
                  replace hI := hI.2
                  have f0 := hide hI.1
                  replace hI := hI.2
                  have f1 := hide hI.1
                  replace hI := hI.2
                  have f2 := hide hI.1
                  replace hI := hI.2
                  have f3 := hide hI.1
                  replace hI := hI.2
                  have f4 := hide hI.1
                  replace hI := hI.2
                  have f5 := hide hI
                  clear hI
                  have g4 := f4.out (hD.on 4 (by kernel_rfl))
                  try simp only [puts, Act.put, List.setIfInBounds_toArray, List.set_cons_zero, List.set_cons_succ]
                  obtain rfl := g4.2
                  go_simp
                  exact hK.out _ _ _ (by simp only [puts, Act.put, List.setIfInBounds_toArray, List.set_cons_zero, List.set_cons_succ] <;> rfl) ⟨hG, (fun h => f0.out h), (fun h => f1.out h), (fun h => f2.out h), (fun h => f3.out h), (fun h => f4.out h), (fun _ => rfl)⟩
              intro L vs W hlen hall hI
              obtain ⟨x0, x1, x2, x3, x4, x5, rfl⟩ := len6 hlen
              have hG := hI.1
              replace hI := hI.2
              have f0 := hide hI.1
              replace hI := hI.2
              have f1 := hide hI.1
              replace hI := hI.2
              have f2 := hide hI.1
              replace hI := hI.2
              have f3 := hide hI.1
              replace hI := hI.2
              have f4 := hide hI.1
              replace hI := hI.2
              have f5 := hide hI
              clear hI
              obtain rfl := f0.out (hall 0 (by decide))
              obtain rfl := f1.out (hall 1 (by decide))
              obtain rfl := f2.out (hall 2 (by decide))
              have g3 := f3.out (hall 3 (by decide))
              have g4 := f4.out (hall 4 (by decide))
              obtain rfl := f5.out (hall 5 (by decide))
              have hal := hide hall
              clear hall f0 f1 f2 f3 f4 f5
              try simp only [puts, Act.put, List.setIfInBounds_toArray, List.set_cons_zero, List.set_cons_succ]
              have HB9 : Hid (Blk W Wb (waC (wayT N R0 (PF.take k)) T) 3) := hide (HB.out.later hG.2)
              have HBC : Hid (Below Wb W0 W) := hide (HBB.out.trans (hG.2.mono (by rw [← HWW.out]; exact HBB.out.size)))
              obtain ⟨-, rfl⟩ := g4
              clear hG g3 HT2 HBZ HGZ HB HBB HG HLI hl1
              by_cases hp0 : p = 0
              · have HP0 := hide hp0
                have hpz : ((p : Int) == 0) = true := by rw [hp0]; rfl
                have hpz2 : decide (p = 0) = true := decide_eq_true hp0
                have z0 := HB9.out.cell p (waC_get _ hpT)
                have zf := HB9.out.frozen p
                have HB10 : Hid (Blk (W.setCell ⟨Wb, p, none⟩ (.int .i64 1)) Wb (waC (wayP N R0 (PF.take k) p 0) T) 3) := hide (by
                  have h := HB9.out.set p (.int .i64 ((1 : Nat) : Int))
                  rw [waC_set] at h
                  rw [HP0.out] at h ⊢
                  rw [wayP_one] at h
                  exact h)
                have HBD : Hid (Below Wb W0 (W.setCell ⟨Wb, p, none⟩ (.int .i64 1))) := hide (HBC.out.setCell (p := ⟨Wb, p, none⟩) (Nat.le_refl _) _)
                clear hp0
                go_wp2_with fail
                go_loopw [26] (fun i wz => ∃ a : Nat, a ≤ N ∧ i = .int .i64 a ∧ Blk wz Wb (waC (wayP N R0 (PF.take k) p a) T) 3 ∧ Below Wb W0 wz) (fun i _ => N - (intOf i).toNat)
                case atStart => exact ⟨0, by omega, rfl, HB10.out, HBD.out⟩
                case round =>
                  obtain ⟨a, ha, rfl, hB4, hbW⟩ := hrel
                  have HG := hide (HGA.out _ hbW)
                  have HBW := hide hB4
                  have HBX := hide hbW
                  clear hB4 hbW
                  have c0 := HG.out.bP.cell 0 rfl
                  by_cases hla : a < N
                  · have hlaI : (a : Int) < N := by omega
                    have HA := hide hla
                    have ha0 : ¬ (a : Int) < 0 := by omega
                    have ht1 : ((p : Int) / 2 ^ a % 2 == 1) = p.testBit a := by rw [← bit_one]; rw [shr_mod]
                    have ht2 : (((p : Int) / 2 ^ a).tmod 2 == 1) = p.testBit a := by rw [← bit_one]; rw [shr_tmod]
                    cases hpa : p.testBit a
                    · rw [hpa] at ht1 ht2
                      have HS := hide (wayP_skip N R0 (PF.take k) hpa)
                      clear hpa
                      go_wp2_with fail
                      clear c0
                      go_roundw
                      case rel => exact ⟨a + 1, by have := HA.out; omega, by go_num, by rw [HS.out]; exact HBW.out, HBX.out⟩
                      case measure => have := HA.out; simp [intOf]; omega
                    · rw [hpa] at ht1 ht2
                      have HPA := hide hpa
                      obtain ⟨X, q, hwX, hwY, hq, hqI, hqT, hqTI, hq0, hqn⟩ := way_pre hpT hT256 (by omega) hpa
                      have HQX := hide hq
                      have HIN := hide (in_any (natsO PF) (q : Int) _ wr HG.out.ha)
                      rw [inI_nats] at HIN
                      clear hq hpa
                      cases hqm : PF.contains q
                      · rw [hqm] at HIN
                        have HS : Hid (wayP N R0 (PF.take k) p (a + 1) = wayP N R0 (PF.take k) p a) := hide (HWN.out k p a (by rw [HTT.out]; exact hpT) HPA.out (by rw [HQX.out]; exact hqm))
                        clear hqm
                        go_wp2_with fail
                        refine HIN.out.mono ?_
                        rintro e w5 ⟨rfl, hw5⟩
                        obtain rfl := hw5
                        go_wp2_with fail
                        clear c0 hwX hwY hqI ht1 ht2
                        go_roundw
                        case rel => exact ⟨a + 1, by have := HA.out; omega, by go_num, by rw [HS.out]; exact HBW.out, HBX.out⟩
                        case measure => have := HA.out; simp [intOf]; omega
                      · rw [hqm] at HIN
                        have HWQ : Hid (wayP N R0 (PF.take k) p a q = waysO N R0 q) := hide (by
                          have h := HWA.out k a HK.out (by rw [HPK.out]; omega) (by rw [HPK.out]; exact HPA.out) (by rw [HPK.out, HQX.out]; exact hqm)
                          rw [HPK.out, HQX.out] at h; exact h)
                        have HPUT := hide (wayP_put N R0 (PF.take k) (p := p) (a := a) HPA.out)
                        rw [HQX.out] at HPUT
                        have q1 := HBW.out.cell p (waC_get _ hpT)
                        have q2 := HBW.out.cell q (waC_get _ hqT)
                        rw [HWQ.out] at q2
                        have hu := HWS.out (PF.take k) p a (by rw [HTT.out]; exact hpT) ha HPP.out
                        have hv := HWB.out q (by rw [HTT.out]; exact hqT)
                        obtain ⟨u, hU⟩ : ∃ u, wayP N R0 (PF.take k) p a p = u := ⟨_, rfl⟩
                        obtain ⟨v, hV⟩ : ∃ v, waysO N R0 q = v := ⟨_, rfl⟩
                        rw [hU] at q1 hu
                        rw [hV] at q2 hv HPUT
                        rw [hU] at HPUT
                        have hws : IntKind.i64.wrap ((u : Int) + v) = ((u + v : Nat) : Int) := wrap_addN hu hv
                        clear hU hV hqm hu hv HWQ
                        go_wp2_with fail
                        refine HIN.out.mono ?_
                        rintro e w5 ⟨rfl, hw5⟩
                        obtain rfl := hw5
                        go_wp2_with fail
                        refine wp_region_still_tail 15 (by kernel_rfl) (by kernel_rfl) ?_
                        simp only [List.take_succ_cons, List.take_zero, List.drop_succ_cons, List.drop_zero]
                        repeat (with_reducible refine wpStill_step (fun K hK => ?_) ; go_simp ; with_reducible refine hK _ ?_ ; clear hK K)
                        refine wpStill_nil ?_
                        change wpList _ _ _ _ _ w5.drew
                        have hbd : Below w5.heap.size w5 w5.drew := (Below.refl _ _).drew
                        have HBX2 := hide (HBX.out.drew)
                        generalize World.drew w5 = V2 at hbd HBX2 ⊢
                        have HBW2 := hide (HBW.out.later hbd)
                        have z0 := HBW2.out.cell p (waC_get _ hpT)
                        have zf := HBW2.out.frozen p
                        have HB3 : Hid (Blk (V2.setCell ⟨Wb, p, none⟩ (.int .i64 ((u + v : Nat) : Int))) Wb (waC (wayP N R0 (PF.take k) p (a + 1)) T) 3) := hide (by
                          have h := HBW2.out.set p (.int .i64 ((u + v : Nat) : Int))
                          rw [waC_set, HPUT.out] at h
                          exact h)
                        have HX3 : Hid (Below Wb W0 (V2.setCell ⟨Wb, p, none⟩ (.int .i64 ((u + v : Nat) : Int)))) := hide (HBX2.out.setCell (p := ⟨Wb, p, none⟩) (Nat.le_refl _) _)
                        clear hbd q1 q2 c0 HBW2 HBX2 hwX hwY hqI ht1 ht2
                        go_wp2_with fail
                        clear z0 zf hws
                        go_roundw
                        case rel => exact ⟨a + 1, by have := HA.out; omega, by go_num, HB3.out, HX3.out⟩
                        case measure => have := HA.out; simp [intOf]; omega
                  · obtain rfl : a = N := by omega
                    have HWE1 := hide (HWE.out k HK.out)
                    rw [HPK.out] at HWE1
                    go_wp2_with fail
                    clear c0
                    go_roundw
                    case rel => exact ⟨k + 1, by have := HK.out; omega, by go_num, by rw [← HWE1.out]; exact HBW.out, HBX.out⟩
                    case measure => have := HK.out; simp [intOf]; omega
              · have hpz : ((p : Int) == 0) = false := beq_eq_false_iff_ne.2 (by omega)
                have hpz2 : decide (p = 0) = false := decide_eq_false hp0
                have HB10 : Hid (Blk W Wb (waC (wayP N R0 (PF.take k) p 0) T) 3) := hide (by
                  have h := HWZ.out k HK.out (by rw [HPK.out]; exact hp0)
                  rw [HPK.out] at h
                  rw [h]; exact HB9.out)
                have HBD := HBC
                clear hp0
                go_wp2_with fail
                go_loopw [26] (fun i wz => ∃ a : Nat, a ≤ N ∧ i = .int .i64 a ∧ Blk wz Wb (waC (wayP N R0 (PF.take k) p a) T) 3 ∧ Below Wb W0 wz) (fun i _ => N - (intOf i).toNat)
                case atStart => exact ⟨0, by omega, rfl, HB10.out, HBD.out⟩
                case round =>
                  obtain ⟨a, ha, rfl, hB4, hbW⟩ := hrel
                  have HG := hide (HGA.out _ hbW)
                  have HBW := hide hB4
                  have HBX := hide hbW
                  clear hB4 hbW
                  have c0 := HG.out.bP.cell 0 rfl
                  by_cases hla : a < N
                  · have hlaI : (a : Int) < N := by omega
                    have HA := hide hla
                    have ha0 : ¬ (a : Int) < 0 := by omega
                    have ht1 : ((p : Int) / 2 ^ a % 2 == 1) = p.testBit a := by rw [← bit_one]; rw [shr_mod]
                    have ht2 : (((p : Int) / 2 ^ a).tmod 2 == 1) = p.testBit a := by rw [← bit_one]; rw [shr_tmod]
                    cases hpa : p.testBit a
                    · rw [hpa] at ht1 ht2
                      have HS := hide (wayP_skip N R0 (PF.take k) hpa)
                      clear hpa
                      go_wp2_with fail
                      clear c0
                      go_roundw
                      case rel => exact ⟨a + 1, by have := HA.out; omega, by go_num, by rw [HS.out]; exact HBW.out, HBX.out⟩
                      case measure => have := HA.out; simp [intOf]; omega
                    · rw [hpa] at ht1 ht2
                      have HPA := hide hpa
                      obtain ⟨X, q, hwX, hwY, hq, hqI, hqT, hqTI, hq0, hqn⟩ := way_pre hpT hT256 (by omega) hpa
                      have HQX := hide hq
                      have HIN := hide (in_any (natsO PF) (q : Int) _ wr HG.out.ha)
                      rw [inI_nats] at HIN
                      clear hq hpa
                      cases hqm : PF.contains q
                      · rw [hqm] at HIN
                        have HS : Hid (wayP N R0 (PF.take k) p (a + 1) = wayP N R0 (PF.take k) p a) := hide (HWN.out k p a (by rw [HTT.out]; exact hpT) HPA.out (by rw [HQX.out]; exact hqm))
                        clear hqm
                        go_wp2_with fail
                        refine HIN.out.mono ?_
                        rintro e w5 ⟨rfl, hw5⟩
                        obtain rfl := hw5
                        go_wp2_with fail
                        clear c0 hwX hwY hqI ht1 ht2
                        go_roundw
                        case rel => exact ⟨a + 1, by have := HA.out; omega, by go_num, by rw [HS.out]; exact HBW.out, HBX.out⟩
                        case measure => have := HA.out; simp [intOf]; omega
                      · rw [hqm] at HIN
                        have HWQ : Hid (wayP N R0 (PF.take k) p a q = waysO N R0 q) := hide (by
                          have h := HWA.out k a HK.out (by rw [HPK.out]; omega) (by rw [HPK.out]; exact HPA.out) (by rw [HPK.out, HQX.out]; exact hqm)
                          rw [HPK.out, HQX.out] at h; exact h)
                        have HPUT := hide (wayP_put N R0 (PF.take k) (p := p) (a := a) HPA.out)
                        rw [HQX.out] at HPUT
                        have q1 := HBW.out.cell p (waC_get _ hpT)
                        have q2 := HBW.out.cell q (waC_get _ hqT)
                        rw [HWQ.out] at q2
                        have hu := HWS.out (PF.take k) p a (by rw [HTT.out]; exact hpT) ha HPP.out
                        have hv := HWB.out q (by rw [HTT.out]; exact hqT)
                        obtain ⟨u, hU⟩ : ∃ u, wayP N R0 (PF.take k) p a p = u := ⟨_, rfl⟩
                        obtain ⟨v, hV⟩ : ∃ v, waysO N R0 q = v := ⟨_, rfl⟩
                        rw [hU] at q1 hu
                        rw [hV] at q2 hv HPUT
                        rw [hU] at HPUT
                        have hws : IntKind.i64.wrap ((u : Int) + v) = ((u + v : Nat) : Int) := wrap_addN hu hv
                        clear hU hV hqm hu hv HWQ
                        go_wp2_with fail
                        refine HIN.out.mono ?_
                        rintro e w5 ⟨rfl, hw5⟩
                        obtain rfl := hw5
                        go_wp2_with fail
                        refine wp_region_still_tail 15 (by kernel_rfl) (by kernel_rfl) ?_
                        simp only [List.take_succ_cons, List.take_zero, List.drop_succ_cons, List.drop_zero]
                        repeat (with_reducible refine wpStill_step (fun K hK => ?_) ; go_simp ; with_reducible refine hK _ ?_ ; clear hK K)
                        refine wpStill_nil ?_
                        change wpList _ _ _ _ _ w5.drew
                        have hbd : Below w5.heap.size w5 w5.drew := (Below.refl _ _).drew
                        have HBX2 := hide (HBX.out.drew)
                        generalize World.drew w5 = V2 at hbd HBX2 ⊢
                        have HBW2 := hide (HBW.out.later hbd)
                        have z0 := HBW2.out.cell p (waC_get _ hpT)
                        have zf := HBW2.out.frozen p
                        have HB3 : Hid (Blk (V2.setCell ⟨Wb, p, none⟩ (.int .i64 ((u + v : Nat) : Int))) Wb (waC (wayP N R0 (PF.take k) p (a + 1)) T) 3) := hide (by
                          have h := HBW2.out.set p (.int .i64 ((u + v : Nat) : Int))
                          rw [waC_set, HPUT.out] at h
                          exact h)
                        have HX3 : Hid (Below Wb W0 (V2.setCell ⟨Wb, p, none⟩ (.int .i64 ((u + v : Nat) : Int)))) := hide (HBX2.out.setCell (p := ⟨Wb, p, none⟩) (Nat.le_refl _) _)
                        clear hbd q1 q2 c0 HBW2 HBX2 hwX hwY hqI ht1 ht2
                        go_wp2_with fail
                        clear z0 zf hws
                        go_roundw
                        case rel => exact ⟨a + 1, by have := HA.out; omega, by go_num, HB3.out, HX3.out⟩
                        case measure => have := HA.out; simp [intOf]; omega
                  · obtain rfl : a = N := by omega
                    have HWE1 := hide (HWE.out k HK.out)
                    rw [HPK.out] at HWE1
                    go_wp2_with fail
                    clear c0
                    go_roundw
                    case rel => exact ⟨k + 1, by have := HK.out; omega, by go_num, by rw [← HWE1.out]; exact HBW.out, HBX.out⟩
                    case measure => have := HK.out; simp [intOf]; omega
        · obtain rfl : k = PF.length := by omega
          have hT1 : IntKind.i64.wrap ((T : Int) - 1) = (T : Int) - 1 := IntWalk.i64_in _ ⟨by omega, by omega⟩
          have hT3 : (0 : Int) ≤ (T : Int) - 1 := by omega
          have hT4 : ((T : Int) - 1).toNat = T - 1 := by omega
          have hT5 : ((T : Int) - 1) < T := by omega
          have q1 : wr.cell? ⟨Wb, T - 1, none⟩ = some (.int .i64 (LN : Nat)) := by
            have h := HB.out.cell (T - 1) (waC_get _ (by omega))
            rw [List.take_length, ← HTT.out, HWL.out] at h
            rw [← HTT.out]; exact h
          have hlp := HLP.out
          have hlpI : (1 : Int) ≤ LN := by omega
          have hlpd : decide (1 ≤ LN) = true := decide_eq_true hlp
          go_wp2_with fail
          go_ret
          exact ⟨rfl, HG.out.hb⟩
end Go.Proofs.YtnidcoinfmcffaaDoor
