/- The walk of OrderDilworth. Conditions: how the arguments and the tables of math/bits lie in memory; that integers are of 64 bits. -/
import Derived.Test.YtnidcoinfmcffaaDoorOtG
namespace Go.Proofs.YtnidcoinfmcffaaDoor
open Go.RowKit
attribute [local go_sem] Oper.semAt_some
theorem made_split (n : Int) (xs : List (Int × Int)) (line : Int) : madeO n xs line = ⟨((looseN n : Nat) : Int), (madeO n xs line).pairs⟩ := rfl
theorem ints_get {W : World} {a : Option Addr} {n c : Nat} {l : List Nat} (h : IntsIn W.cell? (.slice a n c) (natsO l)) {k : Nat} (hk : k < l.length) : ∃ b o, a = some ⟨b, o, none⟩ ∧ W.cell? ⟨b, o + k, none⟩ = some (.int .i64 ((l.getD k 0 : Nat) : Int)) := by
  obtain ⟨a', m', e', -, -, hc⟩ := h
  obtain ⟨rfl, -, -⟩ := Value.slice.inj e'
  obtain ⟨b, o, e, h1⟩ := hc k (by unfold natsO; rw [List.length_map]; exact hk)
  rw [natsO_at] at h1
  exact ⟨b, o, e, h1⟩
theorem ints_get2 {W : World} {b o n c : Nat} {l : List Nat} (h : IntsIn W.cell? (.slice (some ⟨b, o, none⟩) n c) (natsO l)) {k : Nat} (hk : k < l.length) : W.cell? ⟨b, o + k, none⟩ = some (.int .i64 ((l.getD k 0 : Nat) : Int)) := by
  obtain ⟨b', o', e, h1⟩ := ints_get h hk
  cases e; exact h1
theorem ints_fm {W : World} {v : Value} {l : List Nat} (h : IntsIn W.cell? v (natsO l)) : ∃ a c, v = .slice a l.length c := by
  obtain ⟨a, c, e, -⟩ := h
  refine ⟨a, c, ?_⟩
  rw [e]; unfold natsO; rw [List.length_map]
theorem lists_get {W : World} {a : Option Addr} {n c : Nat} {L : List (List Nat)} (h : ListsIn W.cell? (.slice a n c) (natsL L)) {i : Nat} (hi : i < L.length) : ∃ b o ra rc, a = some ⟨b, o, none⟩ ∧ W.cell? ⟨b, o + i, none⟩ = some (.slice ra (L.getD i []).length rc) ∧ IntsIn W.cell? (.slice ra (L.getD i []).length rc) (natsO (L.getD i [])) := by
  obtain ⟨a', m', e', -, -, hc⟩ := h
  obtain ⟨rfl, -, -⟩ := Value.slice.inj e'
  obtain ⟨b, o, u, e, h1, h2⟩ := hc i (by rw [natsL_len]; exact hi)
  rw [natsL_get] at h2
  obtain ⟨ra, rc, rfl⟩ := ints_fm h2
  exact ⟨b, o, ra, rc, e, h1, h2⟩
theorem lists_bel {w W : World} {v : Value} {L : List (List Int)} (h : ListsIn w.cell? v L) (hb : Below w.heap.size w W) : ListsIn W.cell? v L := by
  obtain ⟨a, n, h1, h2, h3, h4⟩ := h
  exact ⟨a, n, h1, h2, h3, fun i hi => let ⟨b, o, u, e, hc, hu⟩ := h4 i hi; ⟨b, o, u, e, keep hb hc, ints_bel hu hb⟩⟩
theorem lists_fm {c : Rd} {v : Value} {L : List (List Nat)} (h : ListsIn c v (natsL L)) : ∃ a n, v = .slice a L.length n := by
  obtain ⟨a, n, e, -⟩ := h
  exact ⟨a, n, by rw [e, natsL_len]⟩
theorem shr_mod {S k : Nat} : ((S : Int) / 2 ^ k) % 2 = ((S / 2 ^ k % 2 : Nat) : Int) := by simp
theorem shr_tmod {S k : Nat} : ((S : Int) / 2 ^ k).tmod 2 = ((S / 2 ^ k % 2 : Nat) : Int) := by
  rw [Int.tmod_eq_emod_of_nonneg (Int.ediv_nonneg (by omega) (Int.pow_nonneg (by decide))), shr_mod]
theorem bit_one {S k : Nat} : ((((S / 2 ^ k % 2 : Nat) : Int)) == 1) = S.testBit k := by
  rw [Nat.testBit_eq_decide_div_mod_eq]
  have h2 : S / 2 ^ k % 2 < 2 := Nat.mod_lt _ (by decide)
  generalize S / 2 ^ k % 2 = q at *
  show decide ((q : Int) = 1) = decide (q = 1)
  rw [decide_eq_decide]; omega
def cntL (l : List Nat) : Nat → Nat := fun a => l.count a
theorem cnt_snoc (l : List Nat) (x : Nat) : cntL (l ++ [x]) = fun y => if y = x then cntL l x + 1 else cntL l y := by
  funext y
  unfold cntL
  rw [List.count_append, List.count_singleton]
  by_cases e : y = x
  · subst e; simp
  · rw [if_neg e]; simp [Ne.symm e]
theorem flat_at {L : List (List Nat)} {i : Nat} (hi : i < L.length) : L.flatten = (L.take i).flatten ++ (L.getD i [] ++ (L.drop (i + 1)).flatten) := by
  conv => lhs; rw [← List.take_append_drop i L, List.flatten_append, List.drop_eq_getElem_cons hi, List.flatten_cons]
  rw [List.getD_eq_getElem?_getD, List.getElem?_eq_getElem hi]; rfl
theorem flat_next {L : List (List Nat)} {i : Nat} (hi : i < L.length) : (L.take (i + 1)).flatten = (L.take i).flatten ++ L.getD i [] := by
  rw [take_succ' L i [] hi, List.flatten_append]; simp
theorem count_le1 (a : Nat) : ∀ {l : List Nat}, l.Nodup → l.count a ≤ 1
  | [], _ => by simp
  | x :: l, h => by
    rw [List.nodup_cons] at h
    have ih := count_le1 a h.2
    rw [List.count_cons]
    by_cases e : x = a
    · subst e
      have : l.count x = 0 := List.count_eq_zero.2 h.1
      simp [this]
    · have : (x == a) = false := by simpa using e
      rw [this]; simpa using ih
theorem cnt_one {n : Nat} {l : List Nat} (h : l.Perm (List.range n)) {a : Nat} (ha : a < n) : cntL l a = 1 := by
  unfold cntL
  rw [h.count_eq]
  have h1 := count_le1 a (List.nodup_range (n := n))
  have h2 := List.count_pos_iff.2 (List.mem_range.2 ha)
  omega
theorem cnt_le {n : Nat} {l m : List Nat} (h : (l ++ m).Perm (List.range n)) (a : Nat) : cntL l a ≤ 1 := by
  unfold cntL
  have h1 : (l ++ m).count a ≤ 1 := by rw [h.count_eq]; exact count_le1 a List.nodup_range
  rw [List.count_append] at h1
  omega
def numS (S k : Nat) : Nat := ((List.range k).filter S.testBit).length
theorem num_succ (S k : Nat) : numS S (k + 1) = numS S k + if S.testBit k then 1 else 0 := by
  unfold numS
  rw [List.range_succ, List.filter_append, List.length_append, List.filter_cons, List.filter_nil]
  cases S.testBit k <;> rfl
theorem num_anti {n S : Nat} {R : RelO} (hn : n ≤ 8) (h : ∀ x, x < n → ∀ y, y < n → S.testBit x = true → S.testBit y = true → R x y = false) : numS S n ≤ (antiO n R).length := by
  refine (anti_is hn).2.2 _ ⟨List.Nodup.sublist List.filter_sublist List.nodup_range, fun a ha => List.mem_range.1 (List.mem_filter.1 ha).1, fun a ha b hb => ?_⟩
  have h1 := List.mem_filter.1 ha
  have h2 := List.mem_filter.1 hb
  exact h a (List.mem_range.1 h1.1) b (List.mem_range.1 h2.1) h1.2 h2.2
/-- what stands beside the counted things -/
structure DilG (w : World) (P N : Nat) (ps : List (Int × Int)) (pv av cv : Value) (A : List Nat) (C : List (List Nat)) (W : World) : Prop where
  bP : Blk W P [.int .i64 (N : Nat), pv] 25
  hp : PairsIn W.cell? pv ps
  ia : IntsIn W.cell? av (natsO A)
  lc : ListsIn W.cell? cv (natsL C)
  hb : Below w.heap.size w W
theorem DilG.later {w W W' : World} {P N : Nat} {ps : List (Int × Int)} {pv av cv : Value} {A : List Nat} {C : List (List Nat)} (h : DilG w P N ps pv av cv A C W) (hb : Below W.heap.size W W') : DilG w P N ps pv av cv A C W' :=
  ⟨h.bP.later hb, h.hp.below hb, ints_bel h.ia hb, lists_bel h.lc hb, below2 h.hb hb⟩
set_option maxRecDepth 100000 in
set_option maxHeartbeats 4000000 in
theorem dilworth_any (n : Int) (xs : List (Int × Int)) (xv : Value) (line s0 : Int) (w : World) (hn : i64B n) (hx : PairsIn w.cell? xv xs) (h64 : ∀ p ∈ xs, i64B p.1 ∧ i64B p.2) (hl : i64B line) (hs0 : i64B s0) (hGl : Glob w) :
    Calls Tryd.prog 7 #[.int .i64 n, xv, .int .i64 line, .int .i64 s0] w (Ret (.bool true) w) := by
  have HMD := hide (fun W (hb : Below w.heap.size w W) => made_any n xs line xv W hn hl (RecIn.below hb hx) h64)
  have hN8 := looseN_le n
  have hvd := made_valid n xs line
  rw [made_split] at hvd
  have hpl := made_len n xs line
  generalize (madeO n xs line).pairs = ps at *
  generalize looseN n = N at *
  have HPO := hide (show PoO N (beforeO ⟨(N : Int), ps⟩) from before_po hvd)
  have HVD := hide hvd
  obtain ⟨xa, xc, rfl, -, -, -⟩ := id hx
  clear hx h64 hn hl hvd
  have hp2 : 0 < 2 ^ N := Nat.pow_pos (by decide)
  have hp256 := pow_256 hN8
  obtain ⟨T, hT⟩ : ∃ T, 2 ^ N = T := ⟨_, rfl⟩
  have hw64 : wrap64 (2 ^ N) = (T : Int) := by rw [← hT]; exact wrapw hN8
  have hw65 : IntKind.i64.wrap (2 ^ N) = (T : Int) := by rw [← hT]; exact wrap_pow hN8
  rw [hT] at hp2 hp256
  have HPS := hide (fun W => pickl_any s0 T W hs0 hp2 (by omega))
  generalize pkO s0 T = S at *
  clear hT
  have HL1 := hide (fun pv W hg hp => antichain_yes N ps pv W hg hp HVD.out)
  have HL2 := hide (fun pv W hp => cover_yes N ps pv W hp HVD.out)
  have HBE := hide (fun (a b : Nat) (h1 : a < N) (h2 : b < N) => (show befB ⟨(N : Int), ps⟩ a b = beforeO ⟨(N : Int), ps⟩ a b by
    unfold befB
    rw [HVD.out, decide_eq_true (by simp only; omega)]; rfl))
  have HBF := hide (fun pv W (a b : Nat) (h1 : a < N) (h2 : b < N) (hp : PairsIn W.cell? pv ps) => (show Calls Tryd.prog 27 #[orderV (N : Int) pv, .int .i64 (a : Int), .int .i64 (b : Int)] W (Ret (.bool (beforeO ⟨(N : Int), ps⟩ a b)) W) by
    have h := before_any ⟨(N : Int), ps⟩ pv a b W hp
    rw [HBE.out a b h1 h2] at h
    exact h))
  generalize hRR : beforeO ⟨(N : Int), ps⟩ = R0 at *
  obtain ⟨hai, has, -⟩ := anti_is (n := N) (R := R0) hN8
  have hdl := dilworth HPO.out hN8
  have hci := (cover_is HPO.out).1
  have HNA := hide (fun h => num_anti (S := S) (R := R0) hN8 h)
  have ham : (antiO N R0).length ≤ N := nodup_le N hai.nod hai.lt
  have HPM := hide hci.perm
  have HNE := hide hci.ne
  have HAS := hide hci.asc
  have HAI := hide hai
  have HAA := hide has
  generalize coverO N R0 = CV at *
  generalize antiO N R0 = AN at *
  clear hs0 hRR hai has hci HBE
  go_enter Tryd.func7, Tryd.ntmps7
  go_wp2_with fail
  refine (sane_any w hGl).mono ?_
  rintro e w1 ⟨rfl, hb1⟩
  have hGl1 := hGl.later hb1
  clear hGl
  go_wp2_with fail
  refine (HMD.out _ hb1).mono ?_
  rintro e w2 ⟨pv, rfl, hO, hb2⟩
  have hp2 : PairsIn w2.cell? pv ps := RecIn.at (RecIn.of_own hO (fun _ => rfl) (Nat.le_refl _))
  have hw2 := below2 hb1 hb2
  have hGl2 := hGl1.later hb2
  obtain ⟨pa, pc, rfl⟩ := OwnR.formE hO
  rw [List.length_map] at hp2 ⊢
  clear hO hb1 hb2 hGl1 HMD
  go_upto_region 5 with (fail)
  generalize hY1 : World.alloc w2 _ = Y1
  have zY1 : Y1.heap.size = w2.heap.size + 1 := by rw [← hY1]; simp
  have bY1 : Below w2.heap.size w2 Y1 := by rw [← hY1]; exact bal w2 _
  have bP : Blk Y1 (w2.heap.size) [.int .i64 (N : Nat), .slice pa ps.length pc] 25 := by rw [← hY1]; exact Blk.newA w2 _ (by first | rfl | simp)
  have Yb := bY1
  have Yz := zY1
  clear hY1 zY1 bY1
  have hpY := RecIn.below Yb hp2
  have hwY := below2 hw2 Yb
  have HGL := hide (hGl2.later Yb)
  obtain ⟨P, hP⟩ : ∃ P, w2.heap.size = P := ⟨_, rfl⟩
  rw [hP] at bP ⊢
  clear hp2 hw2 hGl2 Yb Yz hP
  have c0 := bP.cell 0 rfl
  have c1 := bP.cell 1 rfl
  go_wp2_with fail
  refine (HL1.out _ _ HGL.out hpY).mono ?_
  rintro e w3 ⟨av, rfl, hv, hb3⟩
  have hi3 := hv.at
  have bP3 := bP.later hb3
  have hp3 := hpY.below hb3
  have hw3 := below2 hwY hb3
  obtain ⟨aa, ac, rfl⟩ := ints_fm hi3
  rw [hdl]
  rw [hdl] at hi3
  clear hv hb3 bP hpY hwY c0 c1 HGL
  have c0 := bP3.cell 0 rfl
  have c1 := bP3.cell 1 rfl
  go_wp2_with fail
  refine (HL2.out _ _ hp3).mono ?_
  rintro e w4 ⟨cv, rfl, hv, hb4⟩
  have hc4 : ListsIn w4.cell? cv (natsL CV) := by
    obtain ⟨a, n, h1, h2, h3, h4⟩ := hv
    exact ⟨a, n, h1, h2, h3, fun i hi => let ⟨b, o, u, e, hc, hu⟩ := h4 i hi; ⟨b, o, u, e, keeps_frm _ _ _ _ hc, hu.at⟩⟩
  obtain ⟨ca, cc, rfl⟩ := lists_fm hc4
  have hG4 : DilG w P N ps (.slice pa ps.length pc) (.slice aa CV.length ac) (.slice ca CV.length cc) AN CV w4 := ⟨bP3.later hb4, hp3.below hb4, ints_bel hi3 hb4, hc4, below2 hw3 hb4⟩
  have HG4 := hide hG4
  have c0' := hG4.bP.cell 0 rfl
  clear hv hb4 bP3 hp3 hw3 hi3 hc4 c0 c1 HL1 HL2 hG4
  have hmI : (CV.length : Int) ≤ 9223372036854775807 := by omega
  go_upto_region 10 with (fail)
  generalize hY1 : World.alloc w4 _ = Y1
  have zY1 : Y1.heap.size = w4.heap.size + 1 := by rw [← hY1]; simp
  have bY1 : Below w4.heap.size w4 Y1 := by rw [← hY1]; exact bal w4 _
  have bS : Blk Y1 (w4.heap.size) (lasC (cntL [])) 53 := by rw [← hY1]; exact Blk.newA w4 _ (by first | rfl | simp)
  have Yb := bY1
  have Yz := zY1
  clear hY1 zY1 bY1
  obtain ⟨Sb, hSb⟩ : ∃ Sb, w4.heap.size = Sb := ⟨_, rfl⟩
  have hY0 : Below Sb w4 Y1 := by rw [← hSb]; exact Yb
  rw [hSb] at bS ⊢
  have HG5 : Hid (∀ W, Below Sb w4 W → DilG w P N ps (.slice pa ps.length pc) (.slice aa CV.length ac) (.slice ca CV.length cc) AN CV W) := hide (fun W h => HG4.out.later (by rw [hSb]; exact h))
  have HSB := hide hSb
  clear Yb Yz hSb c0'
  go_wp2_with fail
  go_loopw [16] (fun i wr => ∃ k : Nat, k ≤ CV.length ∧ i = .int .i64 k ∧ Blk wr Sb (lasC (cntL (CV.take k).flatten)) 53 ∧ Below Sb w4 wr) (fun i _ => CV.length - (intOf i).toNat)
  case atStart => exact ⟨0, by omega, rfl, bS, hY0⟩
  case round =>
    clear bS hY0
    obtain ⟨k, hk, rfl, hS, hbr⟩ := hrel
    have HBR := hide hbr
    have HS := hide hS
    clear hbr hS
    by_cases hlk : k < CV.length
    · have hlkI : (k : Int) < CV.length := by omega
      have HK := hide hlk
      obtain ⟨cb, co, ra, rc, rfl, q0, hri⟩ := lists_get HG4.out.lc hlk
      have hne := HNE.out _ (getD_mem CV k (d := []) hlk)
      have hch := HAS.out _ (getD_mem CV k (d := []) hlk)
      have HFX := hide (flat_next hlk)
      have hfa := flat_at hlk
      have hpm := HPM.out
      rw [hfa, ← List.append_assoc] at hpm
      obtain ⟨D, hD⟩ : ∃ D, (CV.drop (k + 1)).flatten = D := ⟨_, rfl⟩
      rw [hD] at hpm
      obtain ⟨row, hrow⟩ : ∃ row, CV.getD k [] = row := ⟨_, rfl⟩
      rw [hrow] at q0 hri hne hch HFX hpm
      have hr0 : 0 < row.length := List.length_pos_iff.2 hne
      have hr8 : row.length ≤ 8 := by
        have h1 := hpm.length_eq
        simp only [List.length_append, List.length_range] at h1
        omega
      have HRM := hide (fun x (hx : x ∈ row) => (show x < N from List.mem_range.1 (hpm.mem_iff.1 (by simp [hx]))))
      have HCA := hide (fun i (hi : i + 1 < row.length) => chain_at hch (i := i) hi)
      have HCN := hide (fun j a => cnt_le (l := (CV.take k).flatten ++ row.take j) (m := row.drop j ++ D) (by rw [List.append_assoc, ← List.append_assoc (row.take j), List.take_append_drop, ← List.append_assoc]; exact hpm) a)
      have HTK := hide (fun j (hj : j < row.length) => take_succ' row j 0 hj)
      have hz : ¬ row.length = 0 := by omega
      have hzb : ((row.length : Int) == 0) = false := by simp; omega
      have hrI : (row.length : Int) ≤ 9223372036854775807 := by omega
      have HQ := hide (fun W (hW : Below Sb w4 W) => keep (show Below w4.heap.size w4 W by rw [HSB.out]; exact hW) q0)
      have HRI := hide (fun W (hW : Below Sb w4 W) => ints_bel hri (show Below w4.heap.size w4 W by rw [HSB.out]; exact hW))
      obtain ⟨rb, ro, rfl, -⟩ := ints_get hri hr0
      have q1 := HQ.out _ HBR.out
      have hSN : ∀ x : Nat, x < N → x < 8 := fun x hx => by omega
      have HSN := hide hSN
      clear q0 hri hne hch hfa hpm hD hrow hSN
      go_wp2_with fail
      clear q1
      go_loopw [17, 18] (fun j _ wz => ∃ h : Nat, h ≤ row.length ∧ j = .int .i64 h ∧ Blk wz Sb (lasC (cntL ((CV.take k).flatten ++ row.take h))) 53 ∧ Below Sb w4 wz) (fun j _ _ => row.length - (intOf j).toNat)
      case atStart => exact ⟨0, by omega, rfl, by rw [List.take_zero, List.append_nil]; exact HS.out, HBR.out⟩
      case round =>
        obtain ⟨h, hh, rfl, hS, hbr⟩ := hrel
        have HBR := hide hbr
        have q1 := HQ.out _ hbr
        clear hbr
        by_cases hlh : h < row.length
        · have hlhI : (h : Int) < row.length := by omega
          have HH := hide hlh
          have q2 := ints_get2 (HRI.out _ HBR.out) hlh
          have hxn := HRM.out _ (getD_mem row h (d := 0) hlh)
          have HTK1 := hide (HTK.out h hlh)
          have HCN1 := hide (HCN.out h)
          have hc0 := (HG5.out _ HBR.out).bP.cell 0 rfl
          have hc1 := (HG5.out _ HBR.out).bP.cell 1 rfl
          have HSX := hide hS
          have HNX : Hid (cntL ((CV.take k).flatten ++ row.take (h + 1)) = fun y => if y = row.getD h 0 then cntL ((CV.take k).flatten ++ row.take h) (row.getD h 0) + 1 else cntL ((CV.take k).flatten ++ row.take h) y) := hide (by rw [HTK1.out, ← List.append_assoc, cnt_snoc])
          obtain ⟨x, hx⟩ : ∃ x, row.getD h 0 = x := ⟨_, rfl⟩
          rw [hx] at q2 hxn HNX
          have hx8 : x < 8 := by omega
          have hx8I : (x : Int) < 8 := by omega
          have hxN : ¬ (N : Int) ≤ x := by omega
          have hxN2 : ¬ N ≤ x := by omega
          have hd1 : decide (N ≤ x) = false := decide_eq_false hxN2
          have hd0 : ¬ (x : Int) < 0 := by omega
          have hle := HCN1.out x
          generalize cntL ((CV.take k).flatten ++ row.take h) = f at *
          have hfw : IntKind.i64.wrap ((f x : Int) + 1) = ((f x + 1 : Nat) : Int) := by rw [show (f x : Int) + 1 = ((f x + 1 : Nat) : Int) by omega]; exact IntWalk.i64_in _ ⟨by omega, by omega⟩
          clear hS
          go_upto_region 19 with (fail)
          by_cases hh0 : h = 0
          · have hh1 : ¬ (0 : Int) < (h : Int) := by omega
            have hh2 : ¬ 0 < h := by omega
            have hh3 : decide (0 < h) = false := decide_eq_false hh2
            clear hh0
            refine wp_region_still_tail 23 (by kernel_rfl) (by kernel_rfl) ?_
            simp only [List.take_succ_cons, List.take_zero, List.drop_succ_cons, List.drop_zero]
            repeat (with_reducible refine wpStill_step (fun K hK => ?_) ; go_simp ; with_reducible refine hK _ ?_ ; clear hK K)
            refine wpStill_nil ?_
            change wpList _ _ _ _ _ wr.drew
            have HBR9 := hide (HBR.out.drew)
            have HS9 := hide (HSX.out.later (Below.refl _ _).drew)
            generalize World.drew wr = w9 at *
            go_upto_region 21 with (fail)
            have z0 := HS9.out.cell x (lasC_get _ x hx8)
            have zf := HS9.out.frozen x
            have hput := HS9.out.set x (.int .i64 ((f x + 1 : Nat) : Int))
            rw [lasC_set _ _ x hx8] at hput
            have HP9 := hide hput
            have HB9 := hide (HBR9.out.setCell (p := ⟨Sb, x, none⟩) (Nat.le_refl _) (.int .i64 ((f x + 1 : Nat) : Int)))
            clear hput q1 q2 hc0 hc1
            go_wp2_with fail
            go_roundw
            case rel => exact ⟨_, HH.out, by go_num, by rw [HNX.out]; exact HP9.out, HB9.out⟩
            case measure => have := HH.out; simp [intOf]; omega
          · obtain ⟨g, rfl⟩ : ∃ g, h = g + 1 := ⟨h - 1, by omega⟩
            have q3 := ints_get2 (HRI.out _ HBR.out) (k := g) (by omega)
            have hyn := HRM.out _ (getD_mem row g (d := 0) (by omega))
            have hrr := HCA.out g hlh
            rw [hx] at hrr
            obtain ⟨y, hy⟩ : ∃ y, row.getD g 0 = y := ⟨_, rfl⟩
            rw [hy] at q3 hyn hrr
            have HC := hide (fun W hp => HBF.out (.slice pa ps.length pc) W y x hyn hxn hp)
            rw [hrr] at HC
            have hh1 : (0 : Int) < (g : Int) + 1 := by omega
            have hh4 : ¬ (g : Int) < 0 := by omega
            have hw1 : IntKind.i64.wrap ((g : Int) + 1 - 1) = g := by rw [show (g : Int) + 1 - 1 = g by omega]; exact IntWalk.i64_in _ ⟨by omega, by omega⟩
            have hw2 : IntKind.i64.wrap (g : Int) = g := IntWalk.i64_in _ ⟨by omega, by omega⟩
            have hgl : (g : Int) < row.length := by omega
            have hgl2 : g < row.length := by omega
            clear hh0 hrr hy
            refine wp_region_still_tail 23 (by kernel_rfl) (by kernel_rfl) ?_
            simp only [List.take_succ_cons, List.take_zero, List.drop_succ_cons, List.drop_zero]
            repeat (with_reducible refine wpStill_step (fun K hK => ?_) ; go_simp ; with_reducible refine hK _ ?_ ; clear hK K)
            refine wpStill_nil ?_
            change wpList _ _ _ _ _ wr.drew
            have HBR8 := hide (HBR.out.drew)
            have HS8 := hide (HSX.out.later (Below.refl _ _).drew)
            generalize World.drew wr = w8 at *
            go_wp2_with fail
            refine (HC.out _ (HG5.out _ HBR8.out).hp).mono ?_
            rintro e w9 ⟨rfl, hb9⟩
            have HBR9 := hide (HBR8.out.trans (hb9.mono (Nat.le_trans (by have := (HS8.out).lt; omega) (Nat.le_refl _))))
            have HS9 := hide (HS8.out.later hb9)
            clear hb9 HC q3
            go_upto_region 21 with (fail)
            have z0 := HS9.out.cell x (lasC_get _ x hx8)
            have zf := HS9.out.frozen x
            have hput := HS9.out.set x (.int .i64 ((f x + 1 : Nat) : Int))
            rw [lasC_set _ _ x hx8] at hput
            have HP9 := hide hput
            have HB9 := hide (HBR9.out.setCell (p := ⟨Sb, x, none⟩) (Nat.le_refl _) (.int .i64 ((f x + 1 : Nat) : Int)))
            clear hput q1 q2 hc0 hc1
            go_wp2_with fail
            go_roundw
            case rel => exact ⟨_, HH.out, by go_num, by rw [HNX.out]; exact HP9.out, HB9.out⟩
            case measure => have := HH.out; simp [intOf]; omega
        · obtain rfl : h = row.length := by omega
          have HS9 : Hid (Blk wr Sb (lasC (cntL (CV.take (k + 1)).flatten)) 53) := hide (by rw [HFX.out]; have h := hS; rw [List.take_length] at h; exact h)
          clear hS
          go_wp2_with fail
          clear q1
          go_roundw
          case rel => exact ⟨k + 1, by have := HK.out; omega, by go_num, HS9.out, HBR.out⟩
          case measure => have := HK.out; simp [intOf]; omega
    · obtain rfl : k = CV.length := by omega
      have HS5 : Hid (∀ a, a < N → wr.cell? ⟨Sb, a, none⟩ = some (.int .i64 1)) := hide (fun a ha => by
        have h := HS.out.cell a (lasC_get _ a (by omega))
        rw [List.take_length, cnt_one HPM.out ha] at h; exact h)
      clear HS
      go_wp2_with fail
      go_loopw [19] (fun i wz => ∃ a : Nat, a ≤ N ∧ i = .int .i64 a ∧ wz = wr) (fun i _ => N - (intOf i).toNat)
      case atStart => exact ⟨0, by omega, rfl, rfl⟩
      case round =>
        obtain ⟨a, ha, rfl, hwz⟩ := hrel
        subst hwz
        have c0 := (HG5.out _ HBR.out).bP.cell 0 rfl
        by_cases hlt : a < N
        · have hltI : (a : Int) < N := by omega
          have HK := hide hlt
          have ha8 : a < 8 := by omega
          have ha8I : (a : Int) < 8 := by omega
          have q1 := HS5.out a hlt
          go_wp2_with fail
          clear q1 c0
          go_roundw
          case rel => exact ⟨a + 1, by have := HK.out; omega, by go_num, by trivial⟩
          case measure => have := HK.out; simp [intOf]; omega
        · obtain rfl : N = a := by omega
          go_wp2_with fail
          clear c0 HS5
          go_loopw [20] (fun i wz => ∃ k : Nat, k ≤ CV.length ∧ i = .int .i64 k ∧ Below Sb w4 wz) (fun i _ => CV.length - (intOf i).toNat)
          case atStart => exact ⟨0, by omega, rfl, HBR.out⟩
          case round =>
            clear HBR
            obtain ⟨k, hk, rfl, hbr⟩ := hrel
            have HBR1 := hide hbr
            clear hbr
            by_cases hlk : k < CV.length
            · have hlkI : (k : Int) < CV.length := by omega
              have HK := hide hlk
              have hkA : k < AN.length := by omega
              obtain ⟨ab, ao, rfl, q1⟩ := ints_get (HG5.out _ HBR1.out).ia hkA
              have HKA := hide hkA
              have hxn := HAI.out.lt _ (getD_mem AN k (d := 0) hkA)
              have HNO := hide (fun j (hj : j < AN.length) => HAI.out.no _ (getD_mem AN k (d := 0) hkA) _ (getD_mem AN j (d := 0) hj))
              by_cases hk0 : k = 0
              · have hh1 : ¬ (0 : Int) < (k : Int) := by omega
                have hh2 : ¬ 0 < k := by omega
                have hh3 : decide (0 < k) = false := decide_eq_false hh2
                obtain ⟨x, hx⟩ : ∃ x, AN.getD k 0 = x := ⟨_, rfl⟩
                rw [hx] at q1 hxn HNO
                clear hk0
                go_upto_region 30 with (fail)
                refine wp_region_still_tail 14 (by kernel_rfl) (by kernel_rfl) ?_
                simp only [List.take_succ_cons, List.take_zero, List.drop_succ_cons, List.drop_zero]
                repeat (with_reducible refine wpStill_step (fun K hK => ?_) ; go_simp ; with_reducible refine hK _ ?_ ; clear hK K)
                refine wpStill_nil ?_
                change wpList _ _ _ _ _ wr.drew
                have HBR2 := hide (HBR1.out.drew)
                generalize World.drew wr = w8 at *
                clear q1
                go_wp2_with fail
                go_loopw [21] (fun j wz => ∃ h : Nat, h ≤ CV.length ∧ j = .int .i64 h ∧ Below Sb w4 wz) (fun j _ => CV.length - (intOf j).toNat)
                case atStart => exact ⟨0, by omega, rfl, HBR2.out⟩
                case round =>
                  obtain ⟨h, hh, rfl, hbz⟩ := hrel
                  have HBZ := hide hbz
                  clear hbz
                  by_cases hlh : h < CV.length
                  · have hlhI : (h : Int) < CV.length := by omega
                    have HH := hide hlh
                    have hhA : h < AN.length := by omega
                    have q1 := ints_get2 (HG5.out _ HBZ.out).ia HKA.out
                    have q2 := ints_get2 (HG5.out _ HBZ.out).ia hhA
                    have hzn := HAI.out.lt _ (getD_mem AN h (d := 0) hhA)
                    have hno := HNO.out h hhA
                    obtain ⟨z, hz⟩ : ∃ z, AN.getD h 0 = z := ⟨_, rfl⟩
                    rw [hx] at q1
                    rw [hz] at q2 hzn hno
                    have HC := hide (fun W hp => HBF.out (.slice pa ps.length pc) W x z hxn hzn hp)
                    rw [hno] at HC
                    have c0 := (HG5.out _ HBZ.out).bP.cell 0 rfl
                    have c1 := (HG5.out _ HBZ.out).bP.cell 1 rfl
                    clear hno hz
                    go_upto_region 35 with (fail)
                    refine wp_region_still_tail 9 (by kernel_rfl) (by kernel_rfl) ?_
                    simp only [List.take_succ_cons, List.take_zero, List.drop_succ_cons, List.drop_zero]
                    repeat (with_reducible refine wpStill_step (fun K hK => ?_) ; go_simp ; with_reducible refine hK _ ?_ ; clear hK K)
                    refine wpStill_nil ?_
                    change wpList _ _ _ _ _ wr.drew
                    have HBZ1 := hide (HBZ.out.drew)
                    generalize World.drew wr = w7 at *
                    clear q1 q2 c0 c1
                    go_wp2_with fail
                    refine (HC.out _ (HG5.out _ HBZ1.out).hp).mono ?_
                    rintro e w9 ⟨rfl, hb9⟩
                    have HBZ2 := hide (HBZ1.out.trans (hb9.mono (by rw [← HSB.out]; exact HBZ1.out.size)))
                    clear hb9 HC
                    go_wp2_with fail
                    go_roundw
                    case rel => exact ⟨h + 1, by have := HH.out; omega, by go_num, HBZ2.out⟩
                    case measure => have := HH.out; simp [intOf]; omega
                  · obtain rfl : h = CV.length := by omega
                    go_wp2_with fail
                    go_roundw
                    case rel => exact ⟨k + 1, by have := HK.out; omega, by go_num, HBZ.out⟩
                    case measure => have := HK.out; simp [intOf]; omega
              · obtain ⟨g, hg⟩ : ∃ g, k = g + 1 := ⟨k - 1, by omega⟩
                have hgA : g < AN.length := by omega
                have q3 := ints_get2 (HG5.out _ HBR1.out).ia hgA
                have hyn := HAI.out.lt _ (getD_mem AN g (d := 0) hgA)
                have hyx : AN.getD g 0 < AN.getD k 0 := by
                  have h := List.pairwise_iff_getElem.1 HAA.out g k hgA hkA (by omega)
                  simpa [List.getD_eq_getElem?_getD, hgA, hkA] using h
                obtain ⟨x, hx⟩ : ∃ x, AN.getD k 0 = x := ⟨_, rfl⟩
                obtain ⟨y, hy⟩ : ∃ y, AN.getD g 0 = y := ⟨_, rfl⟩
                rw [hx] at q1 hxn HNO hyx
                rw [hy] at q3 hyn hyx
                have hxy : ¬ (x : Int) ≤ y := by omega
                have hxyD : decide (x ≤ y) = false := decide_eq_false (by omega)
                have hh1 : (0 : Int) < (k : Int) := by omega
                have hh2 : 0 < k := by omega
                have hh3 : decide (0 < k) = true := decide_eq_true hh2
                have hh4 : ¬ (g : Int) < 0 := by omega
                have hw1 : IntKind.i64.wrap ((k : Int) - 1) = g := by rw [show (k : Int) - 1 = g by omega]; exact IntWalk.i64_in _ ⟨by omega, by omega⟩
                have hw2 : IntKind.i64.wrap (g : Int) = g := IntWalk.i64_in _ ⟨by omega, by omega⟩
                have hgl : (g : Int) < CV.length := by omega
                have hgl2 : g < CV.length := by omega
                clear hk0 hg hyx hy
                go_upto_region 30 with (fail)
                refine wp_region_still_tail 14 (by kernel_rfl) (by kernel_rfl) ?_
                simp only [List.take_succ_cons, List.take_zero, List.drop_succ_cons, List.drop_zero]
                repeat (with_reducible refine wpStill_step (fun K hK => ?_) ; go_simp ; with_reducible refine hK _ ?_ ; clear hK K)
                refine wpStill_nil ?_
                change wpList _ _ _ _ _ wr.drew
                clear q3
                have HBR2 := hide (HBR1.out.drew)
                generalize World.drew wr = w8 at *
                clear q1
                go_wp2_with fail
                go_loopw [21] (fun j wz => ∃ h : Nat, h ≤ CV.length ∧ j = .int .i64 h ∧ Below Sb w4 wz) (fun j _ => CV.length - (intOf j).toNat)
                case atStart => exact ⟨0, by omega, rfl, HBR2.out⟩
                case round =>
                  obtain ⟨h, hh, rfl, hbz⟩ := hrel
                  have HBZ := hide hbz
                  clear hbz
                  by_cases hlh : h < CV.length
                  · have hlhI : (h : Int) < CV.length := by omega
                    have HH := hide hlh
                    have hhA : h < AN.length := by omega
                    have q1 := ints_get2 (HG5.out _ HBZ.out).ia HKA.out
                    have q2 := ints_get2 (HG5.out _ HBZ.out).ia hhA
                    have hzn := HAI.out.lt _ (getD_mem AN h (d := 0) hhA)
                    have hno := HNO.out h hhA
                    obtain ⟨z, hz⟩ : ∃ z, AN.getD h 0 = z := ⟨_, rfl⟩
                    rw [hx] at q1
                    rw [hz] at q2 hzn hno
                    have HC := hide (fun W hp => HBF.out (.slice pa ps.length pc) W x z hxn hzn hp)
                    rw [hno] at HC
                    have c0 := (HG5.out _ HBZ.out).bP.cell 0 rfl
                    have c1 := (HG5.out _ HBZ.out).bP.cell 1 rfl
                    clear hno hz
                    go_upto_region 35 with (fail)
                    refine wp_region_still_tail 9 (by kernel_rfl) (by kernel_rfl) ?_
                    simp only [List.take_succ_cons, List.take_zero, List.drop_succ_cons, List.drop_zero]
                    repeat (with_reducible refine wpStill_step (fun K hK => ?_) ; go_simp ; with_reducible refine hK _ ?_ ; clear hK K)
                    refine wpStill_nil ?_
                    change wpList _ _ _ _ _ wr.drew
                    have HBZ1 := hide (HBZ.out.drew)
                    generalize World.drew wr = w7 at *
                    clear q1 q2 c0 c1
                    go_wp2_with fail
                    refine (HC.out _ (HG5.out _ HBZ1.out).hp).mono ?_
                    rintro e w9 ⟨rfl, hb9⟩
                    have HBZ2 := hide (HBZ1.out.trans (hb9.mono (by rw [← HSB.out]; exact HBZ1.out.size)))
                    clear hb9 HC
                    go_wp2_with fail
                    go_roundw
                    case rel => exact ⟨h + 1, by have := HH.out; omega, by go_num, HBZ2.out⟩
                    case measure => have := HH.out; simp [intOf]; omega
                  · obtain rfl : h = CV.length := by omega
                    go_wp2_with fail
                    go_roundw
                    case rel => exact ⟨k + 1, by have := HK.out; omega, by go_num, HBZ.out⟩
                    case measure => have := HK.out; simp [intOf]; omega
            · obtain rfl : k = CV.length := by omega
              have c0 := (HG5.out _ HBR1.out).bP.cell 0 rfl
              go_wp2_with fail
              refine (HPS.out _).mono ?_
              rintro e w6 ⟨rfl, hw6⟩
              obtain rfl := hw6
              clear HPS hw64 hw65
              go_wp2_with fail
              clear c0
              go_loopw [23, 24, 25] (fun m q i wz => ∃ a : Nat, ∃ f : Bool, a ≤ N ∧ m = .int .i64 (numS S a : Nat) ∧ q = .bool f ∧ i = .int .i64 a ∧ (f = true → ∀ x, x < a → ∀ y, y < N → S.testBit x = true → S.testBit y = true → R0 x y = false) ∧ Below Sb w4 wz) (fun _ _ i _ => N - (intOf i).toNat)
              case atStart => exact ⟨0, true, by omega, rfl, rfl, rfl, fun _ x hx => by omega, HBR1.out⟩
              case round =>
                clear HBR1
                obtain ⟨a, f, ha, rfl, rfl, rfl, hf, hbr⟩ := hrel
                have HF := hide hf
                have HBR2 := hide hbr
                clear hbr hf
                have c0 := (HG5.out _ HBR2.out).bP.cell 0 rfl
                by_cases hlt : a < N
                · have hltI : (a : Int) < N := by omega
                  have HK := hide hlt
                  have hm8 : numS S a ≤ 8 := Nat.le_trans (List.length_filter_le _ _) (by rw [List.length_range]; omega)
                  have hmn := num_succ S a
                  generalize numS S a = m at *
                  have ht1 : ((S : Int) / 2 ^ a % 2 == 1) = S.testBit a := by rw [← bit_one]; rw [shr_mod]
                  have ht2 : (((S : Int) / 2 ^ a).tmod 2 == 1) = S.testBit a := by rw [← bit_one]; rw [shr_tmod]
                  have hmw : IntKind.i64.wrap ((m : Int) + 1) = ((m + 1 : Nat) : Int) := by rw [show (m : Int) + 1 = ((m + 1 : Nat) : Int) by omega]; exact IntWalk.i64_in _ ⟨by omega, by omega⟩
                  cases hba : S.testBit a
                  · rw [hba] at ht1 ht2 hmn
                    have HM : Hid (numS S (a + 1) = m) := hide (by simpa using hmn)
                    have HBA := hide hba
                    clear hmn hba hmw
                    go_wp2_with fail
                    clear c0
                    go_loopw [24, 26] (fun q j wz => ∃ b : Nat, b ≤ N ∧ q = .bool f ∧ j = .int .i64 b ∧ Below Sb w4 wz) (fun _ j _ => N - (intOf j).toNat)
                    case atStart => exact ⟨0, by omega, rfl, rfl, HBR2.out⟩
                    case round =>
                      obtain ⟨b, hb, rfl, rfl, hbz⟩ := hrel
                      have HBZ := hide hbz
                      clear hbz
                      have c0 := (HG5.out _ HBZ.out).bP.cell 0 rfl
                      by_cases hlb : b < N
                      · have hlbI : (b : Int) < N := by omega
                        have HB := hide hlb
                        cases f
                        · go_wp2_with fail
                          clear c0
                          go_roundw
                          case rel => exact ⟨b + 1, by have := HB.out; omega, rfl, by go_num, HBZ.out⟩
                          case measure => have := HB.out; simp [intOf]; omega
                        · go_wp2_with fail
                          clear c0
                          go_roundw
                          case rel => exact ⟨b + 1, by have := HB.out; omega, rfl, by go_num, HBZ.out⟩
                          case measure => have := HB.out; simp [intOf]; omega
                      · obtain rfl : N = b := by omega
                        go_wp2_with fail
                        clear c0
                        go_roundw
                        case rel => exact ⟨a + 1, f, by have := HK.out; omega, by rw [HM.out], rfl, by go_num, (fun h x hx y hy h1 h2 => by
                          rcases Nat.lt_succ_iff_lt_or_eq.1 hx with hx | rfl
                          · exact HF.out h x hx y hy h1 h2
                          · rw [HBA.out] at h1; cases h1), HBZ.out⟩
                        case measure => have := HK.out; simp [intOf]; omega
                  · rw [hba] at ht1 ht2 hmn
                    have HM : Hid (numS S (a + 1) = m + 1) := hide (by simpa using hmn)
                    have HBA := hide hba
                    clear hmn hba
                    go_wp2_with fail
                    clear c0
                    go_loopw [24, 26] (fun q j wz => ∃ b : Nat, ∃ g : Bool, b ≤ N ∧ q = .bool g ∧ j = .int .i64 b ∧ (g = true → f = true ∧ ∀ y, y < b → S.testBit y = true → R0 a y = false) ∧ Below Sb w4 wz) (fun _ j _ => N - (intOf j).toNat)
                    case atStart => exact ⟨0, f, by omega, rfl, rfl, fun h => ⟨h, fun y hy => by omega⟩, HBR2.out⟩
                    case round =>
                      obtain ⟨b, g, hb, rfl, rfl, hg, hbz⟩ := hrel
                      have HBZ := hide hbz
                      have HG := hide hg
                      clear hbz hg
                      have c0 := (HG5.out _ HBZ.out).bP.cell 0 rfl
                      by_cases hlb : b < N
                      · have hlbI : (b : Int) < N := by omega
                        have HB := hide hlb
                        cases g
                        · go_wp2_with fail
                          clear c0
                          go_roundw
                          case rel => exact ⟨b + 1, false, by have := HB.out; omega, rfl, by go_num, (fun h => by cases h), HBZ.out⟩
                          case measure => have := HB.out; simp [intOf]; omega
                        · have ht3 : ((S : Int) / 2 ^ b % 2 == 1) = S.testBit b := by rw [← bit_one]; rw [shr_mod]
                          have ht4 : (((S : Int) / 2 ^ b).tmod 2 == 1) = S.testBit b := by rw [← bit_one]; rw [shr_tmod]
                          cases hbb : S.testBit b
                          · rw [hbb] at ht3 ht4
                            have HBB := hide hbb
                            clear hbb
                            go_wp2_with fail
                            clear c0
                            go_roundw
                            case rel => exact ⟨b + 1, true, by have := HB.out; omega, rfl, by go_num, fun h => ⟨(HG.out (by trivial)).1, fun y hy h2 => by
                              rcases Nat.lt_succ_iff_lt_or_eq.1 hy with hy | rfl
                              · exact (HG.out (by trivial)).2 y hy h2
                              · exact absurd h2 (by rw [HBB.out]; decide)⟩, HBZ.out⟩
                            case measure => have := HB.out; simp [intOf]; omega
                          · rw [hbb] at ht3 ht4
                            have c1 := (HG5.out _ HBZ.out).bP.cell 1 rfl
                            have HC := hide (fun W hp => HBF.out (.slice pa ps.length pc) W a b hlt hlb hp)
                            clear hbb
                            cases hR : R0 a b
                            · rw [hR] at HC
                              have HRR := hide hR
                              clear hR
                              go_wp2_with fail
                              refine (HC.out _ (HG5.out _ HBZ.out).hp).mono ?_
                              rintro e w9 ⟨rfl, hb9⟩
                              have HBZ2 := hide (HBZ.out.trans (hb9.mono (by rw [← HSB.out]; exact HBZ.out.size)))
                              clear hb9 HC c0 c1
                              go_wp2_with fail
                              go_roundw
                              case rel => exact ⟨b + 1, true, by have := HB.out; omega, rfl, by go_num, fun h => ⟨(HG.out (by trivial)).1, fun y hy h2 => by
                                rcases Nat.lt_succ_iff_lt_or_eq.1 hy with hy | rfl
                                · exact (HG.out (by trivial)).2 y hy h2
                                · exact HRR.out⟩, HBZ2.out⟩
                              case measure => have := HB.out; simp [intOf]; omega
                            · rw [hR] at HC
                              clear hR
                              go_wp2_with fail
                              refine (HC.out _ (HG5.out _ HBZ.out).hp).mono ?_
                              rintro e w9 ⟨rfl, hb9⟩
                              have HBZ2 := hide (HBZ.out.trans (hb9.mono (by rw [← HSB.out]; exact HBZ.out.size)))
                              clear hb9 HC c0 c1
                              go_wp2_with fail
                              go_roundw
                              case rel => exact ⟨b + 1, false, by have := HB.out; omega, rfl, by go_num, (fun h => by cases h), HBZ2.out⟩
                              case measure => have := HB.out; simp [intOf]; omega
                      · obtain rfl : N = b := by omega
                        go_wp2_with fail
                        clear c0
                        go_roundw
                        case rel => exact ⟨a + 1, g, by have := HK.out; omega, by rw [HM.out]; go_num, rfl, by go_num, fun h x hx y hy h1 h2 => by
                          rcases Nat.lt_succ_iff_lt_or_eq.1 hx with hx | rfl
                          · exact HF.out (HG.out h).1 x hx y hy h1 h2
                          · exact (HG.out h).2 y hy h2, HBZ.out⟩
                        case measure => have := HK.out; simp [intOf]; omega
                · obtain rfl : N = a := by omega
                  cases f
                  · go_wp2_with fail
                    go_ret
                    exact ⟨rfl, (HG5.out _ HBR2.out).hb⟩
                  · have hle := HNA.out (HF.out rfl)
                    generalize numS S N = m at *
                    have hleI : (m : Int) ≤ CV.length := by omega
                    have hleD : decide (m ≤ CV.length) = true := decide_eq_true (by omega)
                    go_wp2_with fail
                    go_ret
                    exact ⟨rfl, (HG5.out _ HBR2.out).hb⟩
end Go.Proofs.YtnidcoinfmcffaaDoor
