/- The walk of OrderMirsky. Conditions: how the arguments and the tables of math/bits lie in memory; that integers are of 64 bits. -/
import Derived.Test.YtnidcoinfmcffaaDoorOtG
namespace Go.Proofs.YtnidcoinfmcffaaDoor
open Go.RowKit
attribute [local go_sem] Oper.semAt_some
theorem made_split (n : Int) (xs : List (Int × Int)) (line : Int) : madeO n xs line = ⟨((looseN n : Nat) : Int), (madeO n xs line).pairs⟩ := rfl
/-- what stands while the levels are looked at -/
structure MirG (w : World) (P N : Nat) (ps : List (Int × Int)) (pv lv cv nv : Value) (L C O : List Nat) (W : World) : Prop where
  bP : Blk W P [.int .i64 (N : Nat), pv] 25
  hp : PairsIn W.cell? pv ps
  il : IntsIn W.cell? lv (natsO L)
  ic : IntsIn W.cell? cv (natsO C)
  io : IntsIn W.cell? nv (natsO O)
  hb : Below w.heap.size w W
theorem MirG.later {w W W' : World} {P N : Nat} {ps : List (Int × Int)} {pv lv cv nv : Value} {L C O : List Nat} (h : MirG w P N ps pv lv cv nv L C O W) (hb : Below W.heap.size W W') : MirG w P N ps pv lv cv nv L C O W' :=
  ⟨h.bP.later hb, h.hp.below hb, ints_bel h.il hb, ints_bel h.ic hb, ints_bel h.io hb, below2 h.hb hb⟩
theorem ints_get {W : World} {a : Option Addr} {n c : Nat} {l : List Nat} (h : IntsIn W.cell? (.slice a n c) (natsO l)) {k : Nat} (hk : k < l.length) : ∃ b o, a = some ⟨b, o, none⟩ ∧ W.cell? ⟨b, o + k, none⟩ = some (.int .i64 ((l.getD k 0 : Nat) : Int)) := by
  obtain ⟨a', m', e', -, -, hc⟩ := h
  obtain ⟨rfl, -, -⟩ := Value.slice.inj e'
  obtain ⟨b, o, e, h1⟩ := hc k (by unfold natsO; rw [List.length_map]; exact hk)
  rw [natsO_at] at h1
  exact ⟨b, o, e, h1⟩
theorem ints_get2 {W : World} {b o n c : Nat} {l : List Nat} (h : IntsIn W.cell? (.slice (some ⟨b, o, none⟩) n c) (natsO l)) {k : Nat} (hk : k < l.length) : W.cell? ⟨b, o + k, none⟩ = some (.int .i64 ((l.getD k 0 : Nat) : Int)) := by
  obtain ⟨b', o', e, h1⟩ := ints_get h hk
  cases e; exact h1
theorem ints_fm {W : World} {v : Value} {l : List Nat} (h : IntsIn W.cell? v (natsO l)) : ∃ a c, v = .slice a l.length c := by
  obtain ⟨a, c, e, -⟩ := h
  refine ⟨a, c, ?_⟩
  rw [e]; unfold natsO; rw [List.length_map]
def topP (f : Nat → Nat) (k : Nat) : Nat := (List.range k).foldl (fun m a => max m (f a + 1)) 0
theorem topP_succ (f : Nat → Nat) (k : Nat) : topP f (k + 1) = max (topP f k) (f k + 1) := by
  unfold topP; rw [List.range_succ, List.foldl_append]; rfl
theorem topP_le {f : Nat → Nat} {m : Nat} (hf : ∀ a, f a < m) : ∀ k, topP f k ≤ m
  | 0 => Nat.zero_le _
  | k + 1 => by rw [topP_succ]; have := topP_le hf k; have := hf k; omega
def belP (R : RelO) (f : Nat → Nat) (a k : Nat) : Bool := decide (f a = 0) || (List.range k).any fun b => R b a && decide (f b + 1 = f a)
theorem belP_succ (R : RelO) (f : Nat → Nat) (a k : Nat) : belP R f a (k + 1) = (belP R f a k || (R k a && decide (f k + 1 = f a))) := by
  unfold belP; rw [List.range_succ, List.any_append, Bool.or_assoc]; simp
theorem belP_all {n : Nat} {R : RelO} (h : PoO n R) (a : Nat) : belP R (levO n R) a n = true := by
  unfold belP
  rcases lev_below h a with h0 | ⟨b, h1, h2, h3⟩
  · rw [decide_eq_true h0]; rfl
  · rw [Bool.or_eq_true, List.any_eq_true]
    exact .inr ⟨b, List.mem_range.2 h1, by rw [h2, decide_eq_true h3.symm]; rfl⟩
theorem lev_get {n : Nat} {R : RelO} {a : Nat} (ha : a < n) : ((List.range n).map (levO n R)).getD a 0 = levO n R a := by
  rw [List.getD_eq_getElem?_getD, List.getElem?_map, List.getElem?_range ha]; rfl
theorem filter_take {α : Type} (p : α → Bool) {l : List α} {k : Nat} (d : α) (hk : k < l.length) : (l.take (k + 1)).filter p = (l.take k).filter p ++ if p (l.getD k d) then [l.getD k d] else [] := by
  rw [take_succ' l k d hk, List.filter_append, List.filter_cons, List.filter_nil]
theorem shr_mod {S k : Nat} : ((S : Int) / 2 ^ k) % 2 = ((S / 2 ^ k % 2 : Nat) : Int) := by simp
theorem shr_tmod {S k : Nat} : ((S : Int) / 2 ^ k).tmod 2 = ((S / 2 ^ k % 2 : Nat) : Int) := by
  rw [Int.tmod_eq_emod_of_nonneg (Int.ediv_nonneg (by omega) (Int.pow_nonneg (by decide))), shr_mod]
theorem bit_one {S k : Nat} : ((((S / 2 ^ k % 2 : Nat) : Int)) == 1) = S.testBit k := by
  rw [Nat.testBit_eq_decide_div_mod_eq]
  have h2 : S / 2 ^ k % 2 < 2 := Nat.mod_lt _ (by decide)
  generalize S / 2 ^ k % 2 = q at *
  show decide ((q : Int) = 1) = decide (q = 1)
  rw [decide_eq_decide]; omega
set_option maxRecDepth 100000 in
set_option maxHeartbeats 4000000 in
theorem mirsky_any (n : Int) (xs : List (Int × Int)) (xv : Value) (line s0 : Int) (w : World) (hn : i64B n) (hx : PairsIn w.cell? xv xs) (h64 : ∀ p ∈ xs, i64B p.1 ∧ i64B p.2) (hl : i64B line) (hs0 : i64B s0) (hGl : Glob w) :
    Calls Tryd.prog 6 #[.int .i64 n, xv, .int .i64 line, .int .i64 s0] w (Ret (.bool true) w) := by
  have HMD := hide (fun W (hb : Below w.heap.size w W) => made_any n xs line xv W hn hl (RecIn.below hb hx) h64)
  have hN8 := looseN_le n
  have hvd := made_valid n xs line
  rw [made_split] at hvd
  have hpl := made_len n xs line
  generalize (madeO n xs line).pairs = ps at *
  generalize looseN n = N at *
  have HPO := hide (show PoO N (beforeO ⟨(N : Int), ps⟩) from before_po hvd)
  have HVD := hide hvd
  obtain ⟨xa, xc, rfl, -, -, -⟩ := id hx
  clear hx h64 hn hl hvd
  have HPS := hide (fun W => pickl_any s0 256 W hs0 (by decide) (by decide))
  have hS8 := pk_lt s0 (n := 256) (by decide)
  generalize pkO s0 256 = S at *
  have HL1 := hide (fun pv W hp => levels_yes N ps pv W hp HVD.out)
  have HL2 := hide (fun pv W hp => chain_yes N ps pv W hp HVD.out)
  have HL3 := hide (fun pv W hp => line_yes N ps pv W hp HVD.out)
  have HBE := hide (fun (a b : Nat) (h1 : a < N) (h2 : b < N) => (show befB ⟨(N : Int), ps⟩ a b = beforeO ⟨(N : Int), ps⟩ a b by
    unfold befB
    rw [HVD.out, decide_eq_true (by simp only; omega)]; rfl))
  have HBF := hide (fun pv W (a b : Nat) (h1 : a < N) (h2 : b < N) (hp : PairsIn W.cell? pv ps) => (show Calls Tryd.prog 27 #[orderV (N : Int) pv, .int .i64 (a : Int), .int .i64 (b : Int)] W (Ret (.bool (beforeO ⟨(N : Int), ps⟩ a b)) W) by
    have h := before_any ⟨(N : Int), ps⟩ pv a b W hp
    rw [HBE.out a b h1 h2] at h
    exact h))
  generalize hRR : beforeO ⟨(N : Int), ps⟩ = R0 at *
  have hlo := (line_is HPO.out)
  have HLM := hide (fun x (h : x ∈ lineO N R0) => (hlo.mem x).1 h)
  have hll := hlo.len
  have hcd := chain_dom HPO.out
  have hcl : (chainO N R0).length ≤ N := by
    refine nodup_le N ?_ hcd
    exact List.Pairwise.imp (fun {a b} hab e => by subst e; rw [HPO.out.irr] at hab; cases hab) (chain_is HPO.out)
  have HCD := hide hcd
  have HCA := hide (fun i hi => chain_at (chain_is HPO.out) (i := i) hi)
  have HCM := hide (fun l hl hc => chain_max HPO.out (l := l) hl hc)
  have HTP : Hid ((chainO N R0).length = topP (levO N R0) N) := hide (mirsky HPO.out)
  have HLT := hide (fun x (hx : x < N) => levO_lt HPO.out hx)
  have HLL := hide (fun a b h => lev_lt HPO.out (a := a) (x := b) h)
  have HBP := hide (fun a => belP_all HPO.out a)
  have HLV : Hid (∀ a, a < N → ((List.range N).map (levO N R0)).getD a 0 = levO N R0 a) := hide (fun a ha => lev_get ha)
  have hlvl : ((List.range N).map (levO N R0)).length = N := by simp
  have HTS := hide (fun k => topP_succ (levO N R0) k)
  have HBS := hide (fun a k => belP_succ R0 (levO N R0) a k)
  have HB0 : Hid (∀ a, belP R0 (levO N R0) a 0 = decide (levO N R0 a = 0)) := hide (fun a => by unfold belP; simp)
  have HT0 : Hid (topP (levO N R0) 0 = 0) := hide rfl
  have HTL := hide (fun k (hk : k ≤ N) => (show topP (levO N R0) k ≤ N by
    induction k with
    | zero => exact Nat.zero_le _
    | succ k ih => rw [topP_succ]; have := ih (by omega); have := levO_lt HPO.out (show k < N by omega); omega))
  generalize (List.range N).map (levO N R0) = LV at *
  generalize chainO N R0 = CH at *
  generalize lineO N R0 = LO at *
  generalize topP (levO N R0) = TP at *
  generalize belP R0 (levO N R0) = BP at *
  generalize levO N R0 = f at *
  clear hs0 hRR hcd hlo HBE
  go_enter Tryd.func6, Tryd.ntmps6
  go_wp2_with fail
  refine (sane_any w hGl).mono ?_
  rintro e w1 ⟨rfl, hb1⟩
  have hGl1 := hGl.later hb1
  clear hGl
  go_wp2_with fail
  refine (HMD.out _ hb1).mono ?_
  rintro e w2 ⟨pv, rfl, hO, hb2⟩
  have hp2 : PairsIn w2.cell? pv ps := RecIn.at (RecIn.of_own hO (fun _ => rfl) (Nat.le_refl _))
  have hw2 := below2 hb1 hb2
  have hGl2 := hGl1.later hb2
  obtain ⟨pa, pc, rfl⟩ := OwnR.formE hO
  rw [List.length_map] at hp2 ⊢
  clear hO hb1 hb2 hGl1 HMD
  go_upto_region 5 with (fail)
  generalize hY1 : World.alloc w2 _ = Y1
  have zY1 : Y1.heap.size = w2.heap.size + 1 := by rw [← hY1]; simp
  have bY1 : Below w2.heap.size w2 Y1 := by rw [← hY1]; exact bal w2 _
  have bP : Blk Y1 (w2.heap.size) [.int .i64 (N : Nat), .slice pa ps.length pc] 25 := by rw [← hY1]; exact Blk.newA w2 _ (by first | rfl | simp)
  have Yb := bY1
  have Yz := zY1
  clear hY1 zY1 bY1
  have hpY := RecIn.below Yb hp2
  have hwY := below2 hw2 Yb
  have HGL := hide (hGl2.later Yb)
  obtain ⟨P, hP⟩ : ∃ P, w2.heap.size = P := ⟨_, rfl⟩
  rw [hP] at bP ⊢
  clear hp2 hw2 hGl2 Yb Yz hP
  have c0 := bP.cell 0 rfl
  have c1 := bP.cell 1 rfl
  go_wp2_with fail
  refine (HL1.out _ _ hpY).mono ?_
  rintro e w3 ⟨lv, rfl, hv, hb3⟩
  have hi3 := hv.at
  have bP3 := bP.later hb3
  have hp3 := hpY.below hb3
  have hw3 := below2 hwY hb3
  obtain ⟨la, lc, rfl⟩ := ints_fm hi3
  clear hv hb3 bP hpY hwY c0 c1
  have c0 := bP3.cell 0 rfl
  have c1 := bP3.cell 1 rfl
  go_wp2_with fail
  refine (HL2.out _ _ hp3).mono ?_
  rintro e w4 ⟨cv, rfl, hv, hb4⟩
  have hc4 := hv.at
  have hi4 := ints_bel hi3 hb4
  have bP4 := bP3.later hb4
  have hp4 := hp3.below hb4
  have hw4 := below2 hw3 hb4
  obtain ⟨ca, cc, rfl⟩ := ints_fm hc4
  clear hv hb4 bP3 hp3 hw3 hi3 c0 c1
  have c0 := bP4.cell 0 rfl
  have c1 := bP4.cell 1 rfl
  go_wp2_with fail
  refine (HL3.out _ _ hp4).mono ?_
  rintro e w5 ⟨ov, rfl, hv, hb5⟩
  have ho5 := hv.at
  obtain ⟨oa, oc, rfl⟩ := ints_fm ho5
  have HG := hide (show MirG w P N ps (.slice pa ps.length pc) (.slice la LV.length lc) (.slice ca CH.length cc) (.slice oa LO.length oc) LV CH LO w5 from ⟨bP4.later hb5, hp4.below hb5, ints_bel hi4 hb5, ints_bel hc4 hb5, ho5, below2 hw4 hb5⟩)
  rw [hlvl, hll] at HG
  rw [hll]
  clear hv hb5 bP4 hp4 hw4 hi4 hc4 ho5 c0 c1 HL1 HL2 HL3
  have c0 := HG.out.bP.cell 0 rfl
  have c1 := HG.out.bP.cell 1 rfl
  have hcI : (CH.length : Int) ≤ 9223372036854775807 := by omega
  have HLVN := hide hlvl
  have HLLN := hide hll
  clear hlvl hll
  go_wp2_with fail
  clear c0 c1
  go_loopw [17, 18] (fun t i wr => ∃ a : Nat, a ≤ N ∧ i = .int .i64 a ∧ t = .int .i64 ((TP a : Int) - 1) ∧ MirG w P N ps (.slice pa ps.length pc) (.slice la N lc) (.slice ca CH.length cc) (.slice oa N oc) LV CH LO wr) (fun _ i _ => N - (intOf i).toNat)
  case atStart => exact ⟨0, by omega, rfl, by rw [HT0.out]; rfl, HG.out⟩
  case round =>
    obtain ⟨a, ha, rfl, rfl, hG⟩ := hrel
    have HG := hide hG
    clear hG
    have c0 := HG.out.bP.cell 0 rfl
    have c1 := HG.out.bP.cell 1 rfl
    by_cases hla : a < N
    · have hlaI : (a : Int) < N := by omega
      have HK := hide hla
      obtain ⟨lb, lo, rfl, l0⟩ := ints_get HG.out.il (k := a) (by rw [HLVN.out]; exact hla)
      rw [HLV.out a hla] at l0
      have hfa := HLT.out a hla
      have htp := HTL.out a (by omega)
      have HTS1 := hide (HTS.out a)
      have hmx : (if (TP a : Int) - 1 < (f a : Int) then (f a : Int) else (TP a : Int) - 1) = (TP (a + 1) : Int) - 1 := by rw [HTS1.out]; split <;> omega
      have hz : ((f a : Int) == 0) = BP a 0 := by rw [HB0.out]; show decide ((f a : Int) = 0) = _; rw [decide_eq_decide]; omega
      have hwr : IntKind.i64.wrap ((f a : Int) - 1) = (f a : Int) - 1 := IntWalk.i64_in _ ⟨by omega, by omega⟩
      have HZ := hide hz
      go_wp2_with fail
      clear c0 c1 l0
      go_loopw [19, 20] (fun q j wz => ∃ b : Nat, b ≤ N ∧ j = .int .i64 b ∧ q = .bool (BP a b) ∧ MirG w P N ps (.slice pa ps.length pc) (.slice (some ⟨lb, lo, none⟩) N lc) (.slice ca CH.length cc) (.slice oa N oc) LV CH LO wz) (fun _ j _ => N - (intOf j).toNat)
      case atStart => exact ⟨0, by omega, rfl, by first | rfl | rw [HZ.out], HG.out⟩
      case round =>
        obtain ⟨b, hb, rfl, rfl, hG⟩ := hrel
        have HG := hide hG
        clear hG
        have c0 := HG.out.bP.cell 0 rfl
        have c1 := HG.out.bP.cell 1 rfl
        by_cases hlb : b < N
        · have hlbI : (b : Int) < N := by omega
          have HJ := hide hlb
          have HC := hide (HBF.out _ _ b a hlb hla HG.out.hp)
          have HBS1 := hide (HBS.out a b)
          cases hr : R0 b a
          · rw [hr] at HC HBS1
            have HB1 : Hid (BP a (b + 1) = BP a b) := hide (by rw [HBS1.out]; simp)
            clear hr
            go_wp2_with fail
            refine HC.out.mono ?_
            rintro e w9 ⟨rfl, hb9⟩
            have HG9 := hide (HG.out.later hb9)
            clear hb9 c0 c1 HC
            go_wp2_with fail
            go_roundw
            case rel => exact ⟨b + 1, by have := HJ.out; omega, by go_num, by rw [HB1.out], HG9.out⟩
            case measure => have := HJ.out; simp [intOf]; omega
          · rw [hr] at HC HBS1
            have hlt := HLL.out b a hr
            have hltI : ¬ (f a : Int) ≤ f b := by omega
            have hltN : ¬ f a ≤ f b := by omega
            have hdec : decide (f a ≤ f b) = false := decide_eq_false hltN
            have heq : ((f b : Int) == (f a : Int) - 1) = decide (f b + 1 = f a) := by show decide ((f b : Int) = (f a : Int) - 1) = _; rw [decide_eq_decide]; omega
            have HB1 : Hid (BP a (b + 1) = (BP a b || decide (f b + 1 = f a))) := hide (by rw [HBS1.out]; simp)
            generalize decide (f b + 1 = f a) = dq at *
            clear hr
            go_wp2_with fail
            refine HC.out.mono ?_
            rintro e w9 ⟨rfl, hb9⟩
            have HG9 := hide (HG.out.later hb9)
            clear hb9 c0 c1 HC
            have q1 := ints_get2 HG9.out.il (k := b) (by rw [HLVN.out]; exact hlb)
            have q2 := ints_get2 HG9.out.il (k := a) (by rw [HLVN.out]; exact hla)
            rw [HLV.out b hlb] at q1
            rw [HLV.out a hla] at q2
            go_wp2_with fail
            refine wp_region_still_tail 8 (by kernel_rfl) (by kernel_rfl) ?_
            simp only [List.take_succ_cons, List.take_zero, List.drop_succ_cons, List.drop_zero]
            repeat (with_reducible refine wpStill_step (fun K hK => ?_) ; go_simp ; with_reducible refine hK _ ?_ ; clear hK K)
            refine wpStill_nil ?_
            change wpList _ _ _ _ _ w9.drew
            have HG10 := hide (HG9.out.later (Below.refl w9.heap.size w9).drew)
            generalize World.drew w9 = w10 at *
            clear q1 q2
            have q1 := ints_get2 HG10.out.il (k := b) (by rw [HLVN.out]; exact hlb)
            have q2 := ints_get2 HG10.out.il (k := a) (by rw [HLVN.out]; exact hla)
            rw [HLV.out b hlb] at q1
            rw [HLV.out a hla] at q2
            cases hq : BP a b
            · rw [hq] at HB1
              clear hq
              go_wp2_with fail
              refine wp_region_still_tail 13 (by kernel_rfl) (by kernel_rfl) ?_
              simp only [List.take_succ_cons, List.take_zero, List.drop_succ_cons, List.drop_zero]
              repeat (with_reducible refine wpStill_step (fun K hK => ?_) ; go_simp ; with_reducible refine hK _ ?_ ; clear hK K)
              refine wpStill_nil ?_
              change wpList _ _ _ _ _ w10.drew
              have HG11 := hide (HG10.out.later (Below.refl w10.heap.size w10).drew)
              generalize World.drew w10 = w11 at *
              clear q1 q2
              go_wp2_with fail
              go_roundw
              case rel => exact ⟨b + 1, by have := HJ.out; omega, by go_num, by rw [HB1.out]; rfl, HG11.out⟩
              case measure => have := HJ.out; simp [intOf]; omega
            · rw [hq] at HB1
              clear hq
              go_wp2_with fail
              refine wp_region_still_tail 13 (by kernel_rfl) (by kernel_rfl) ?_
              simp only [List.take_succ_cons, List.take_zero, List.drop_succ_cons, List.drop_zero]
              repeat (with_reducible refine wpStill_step (fun K hK => ?_) ; go_simp ; with_reducible refine hK _ ?_ ; clear hK K)
              refine wpStill_nil ?_
              change wpList _ _ _ _ _ w10.drew
              have HG11 := hide (HG10.out.later (Below.refl w10.heap.size w10).drew)
              generalize World.drew w10 = w11 at *
              clear q1 q2
              go_wp2_with fail
              go_roundw
              case rel => exact ⟨b + 1, by have := HJ.out; omega, by go_num, by rw [HB1.out]; rfl, HG11.out⟩
              case measure => have := HJ.out; simp [intOf]; omega
        · obtain rfl : b = N := by omega
          rw [HBP.out a]
          go_wp2_with fail
          clear c0 c1
          go_roundw
          case rel => exact ⟨a + 1, by have := HK.out; omega, by go_num, by first | rfl | (rw [← hmx]), HG.out⟩
          case measure => have := HK.out; simp [intOf]; omega
    · obtain rfl : a = N := by omega
      have HTPN := hide (HTL.out a (Nat.le_refl _))
      have HQ0 : Hid (∀ x ∈ LO.filter S.testBit, x < a) := hide (fun x hx => HLM.out x (List.mem_filter.1 hx).1)
      have HQ1 : Hid ((∀ j, j + 1 < (LO.filter S.testBit).length → R0 ((LO.filter S.testBit).getD j 0) ((LO.filter S.testBit).getD (j + 1) 0) = true) → (LO.filter S.testBit).length ≤ CH.length) := hide (fun h => HCM.out _ HQ0.out (chain_steps HPO.out h))
      have HFT := hide (fun k (hk : k < LO.length) => filter_take S.testBit (0 : Nat) hk)
      have HF0 : Hid ((LO.take 0).filter S.testBit = []) := hide rfl
      have HFN : Hid ((LO.take a).filter S.testBit = LO.filter S.testBit) := hide (by rw [List.take_of_length_le (by rw [HLLN.out]; exact Nat.le_refl _)])
      have HFL := hide (fun k => (show ((LO.take k).filter S.testBit).length ≤ 8 from Nat.le_trans (List.length_filter_le _ _) (by rw [List.length_take, HLLN.out]; omega)))
      go_wp2_with fail
      clear c0 c1
      go_loopw [21] (fun i wr => ∃ j : Nat, (j + 1 ≤ CH.length ∨ j = 0) ∧ i = .int .i64 ((j : Int) + 1) ∧ MirG w P a ps (.slice pa ps.length pc) (.slice la a lc) (.slice ca CH.length cc) (.slice oa a oc) LV CH LO wr) (fun i _ => CH.length - (intOf i).toNat)
      case atStart => exact ⟨0, .inr rfl, rfl, HG.out⟩
      case round =>
        obtain ⟨j, hj, rfl, hG⟩ := hrel
        have HG := hide hG
        clear hG
        have c0 := HG.out.bP.cell 0 rfl
        have c1 := HG.out.bP.cell 1 rfl
        by_cases hlj : j + 1 < CH.length
        · have hljI : (j : Int) + 1 < CH.length := by omega
          have HJ := hide hlj
          obtain ⟨cb, co, rfl, q1⟩ := ints_get HG.out.ic (k := j) (by omega)
          have q2 := ints_get2 HG.out.ic (k := j + 1) hlj
          have hx1 := HCD.out _ (getD_mem CH j (d := 0) (by omega))
          have hx2 := HCD.out _ (getD_mem CH (j + 1) (d := 0) hlj)
          have hrr := HCA.out j hlj
          generalize CH.getD j 0 = x1 at *
          generalize CH.getD (j + 1) 0 = x2 at *
          have HC := hide (fun W hp => HBF.out (.slice pa ps.length pc) W x1 x2 hx1 hx2 hp)
          rw [hrr] at HC
          have hjI : (j : Int) < CH.length := by omega
          have hj0 : (0 : Int) ≤ (j : Int) + 1 := by omega
          have hw1 : IntKind.i64.wrap ((j : Int) + 1 - 1) = j := by rw [show (j : Int) + 1 - 1 = j by omega]; exact IntWalk.i64_in _ ⟨by omega, by omega⟩
          have hw2 : IntKind.i64.wrap (j : Int) = j := IntWalk.i64_in _ ⟨by omega, by omega⟩
          clear hrr
          go_wp2_with fail
          refine wp_region_still_tail 10 (by kernel_rfl) (by kernel_rfl) ?_
          simp only [List.take_succ_cons, List.take_zero, List.drop_succ_cons, List.drop_zero]
          repeat (with_reducible refine wpStill_step (fun K hK => ?_) ; go_simp ; with_reducible refine hK _ ?_ ; clear hK K)
          refine wpStill_nil ?_
          change wpList _ _ _ _ _ wr.drew
          have HG9 := hide (HG.out.later (Below.refl wr.heap.size wr).drew)
          generalize World.drew wr = w9 at *
          clear q1 q2 c0 c1
          go_wp2_with fail
          refine (HC.out _ HG9.out.hp).mono ?_
          rintro e w10 ⟨rfl, hb10⟩
          have HG10 := hide (HG9.out.later hb10)
          clear hb10 HC
          go_wp2_with fail
          go_roundw
          case rel => exact ⟨j + 1, by have := HJ.out; omega, by go_num, HG10.out⟩
          case measure => have := HJ.out; simp [intOf]; omega
        · go_wp2_with fail
          refine (HPS.out _).mono ?_
          rintro e w9 ⟨rfl, hw9⟩
          obtain rfl := hw9
          have hn9 : (a : Int) ≤ 9223372036854775807 := by omega
          go_wp2_with fail
          clear c0 c1
          have hB0 := HG.out.hb.size
          go_loopw [23, 24] (fun ov i wr => ∃ k : Nat, k ≤ a ∧ i = .int .i64 k ∧ OwnI wr w9.heap.size ov (natsO ((LO.take k).filter S.testBit)) ∧ Below w9.heap.size w9 wr) (fun _ i _ => a - (intOf i).toNat)
          case atStart => exact ⟨0, by omega, rfl, by rw [HF0.out]; exact OwnI.nil _ _, Below.refl _ _⟩
          case round =>
            obtain ⟨k, hk, rfl, hO, hbr⟩ := hrel
            obtain ⟨va, vc, rfl⟩ := hO.form
            by_cases hlk : k < a
            · have hlkI : (k : Int) < a := by omega
              have HK := hide hlk
              obtain ⟨ob, oo, rfl, q1⟩ := ints_get (HG.out.later hbr).io (k := k) (by rw [HLLN.out]; exact hlk)
              have hxn := HLM.out _ (getD_mem LO k (d := 0) (by rw [HLLN.out]; exact hlk))
              have HFK := hide (HFT.out k (by rw [HLLN.out]; exact hlk))
              have hql := HFL.out k
              rw [← natsO_len] at hql
              obtain ⟨x, hx⟩ : ∃ x, LO.getD k 0 = x := ⟨_, rfl⟩
              rw [hx] at q1 hxn HFK
              have ht1 : ((S : Int) / 2 ^ x % 2 == 1) = S.testBit x := by rw [← bit_one]; rw [shr_mod]
              have ht2 : (((S : Int) / 2 ^ x).tmod 2 == 1) = S.testBit x := by rw [← bit_one]; rw [shr_tmod]
              have HSQ : Hid (natsO ((LO.take (k + 1)).filter S.testBit) = natsO ((LO.take k).filter S.testBit) ++ if S.testBit x then [(x : Int)] else []) := hide (by rw [HFK.out]; split <;> simp [natsO])
              generalize natsO ((LO.take k).filter S.testBit) = q at *
              clear hx HFK
              have hsz := hbr.size
              have HBR := hide hbr
              clear hbr
              cases hbt : S.testBit x
              · rw [hbt] at ht1 ht2 HSQ
                have HO := hide hO
                clear hbt hO
                go_wp2_with fail
                clear q1
                go_roundw
                case rel => exact ⟨k + 1, by have := HK.out; omega, by go_num, by rw [HSQ.out, if_neg (by decide), List.append_nil]; exact HO.out, HBR.out⟩
                case measure => have := HK.out; simp [intOf]; omega
              · rw [hbt] at ht1 ht2 HSQ
                clear hbt
                go_wp2_with (at_builtin; refine app_intE rfl _ _ rfl w9.heap.size _ q rfl hO (x : Int) rfl (by omega) hsz ?_; intro v3 w3 hO3 hE3 hob3; have HB3 := hide (HBR.out.trans (hE3.below hsz (fun k e => (hO.ltB e.symm).1))); have HO3 := hide hO3; clear hO3 hE3 hob3)
                go_roundw
                case rel => exact ⟨k + 1, by have := HK.out; omega, by go_num, by rw [HSQ.out, if_pos rfl]; exact HO3.out, HB3.out⟩
                case measure => have := HK.out; simp [intOf]; omega
            · obtain rfl : k = a := by omega
              rw [HFN.out] at hO ⊢
              have HG4 := hide (HG.out.later hbr)
              have HOI := hide (show IntsIn wr.cell? (.slice va (natsO (LO.filter S.testBit)).length vc) (natsO (LO.filter S.testBit)) from hO.ints)
              have hol : (natsO (LO.filter S.testBit)).length = (LO.filter S.testBit).length := natsO_len _
              rw [hol] at HOI ⊢
              have hO8 : (LO.filter S.testBit).length ≤ 8 := by have h := HFL.out k; rw [HFN.out] at h; exact h
              generalize LO.filter S.testBit = OT at *
              clear hO hbr
              go_wp2_with fail
              go_loopw [25, 26] (fun q i wz => ∃ (j : Nat) (qb : Bool), (j + 1 ≤ OT.length ∨ j = 0) ∧ i = .int .i64 ((j : Int) + 1) ∧ q = .bool qb ∧ Hid (qb = true → ∀ i, i < j → R0 (OT.getD i 0) (OT.getD (i + 1) 0) = true) ∧ MirG w P k ps (.slice pa ps.length pc) (.slice la k lc) (.slice ca CH.length cc) (.slice oa k oc) LV CH LO wz ∧ IntsIn wz.cell? (.slice va OT.length vc) (natsO OT)) (fun _ i _ => OT.length - (intOf i).toNat)
              case atStart => exact ⟨0, true, .inr rfl, rfl, rfl, hide (fun _ i hi => by omega), HG4.out, HOI.out⟩
              case round =>
                obtain ⟨j, qb, hj, rfl, rfl, HQ, hG, hI⟩ := hrel
                have HG := hide hG
                have HI := hide hI
                clear hG hI
                by_cases hlj : j + 1 < OT.length
                · have hljI : (j : Int) + 1 < OT.length := by omega
                  have HJ := hide hlj
                  cases qb
                  · go_wp2_with fail
                    refine wp_region_still_tail 12 (by kernel_rfl) (by kernel_rfl) ?_
                    simp only [List.take_succ_cons, List.take_zero, List.drop_succ_cons, List.drop_zero]
                    repeat (with_reducible refine wpStill_step (fun K hK => ?_) ; go_simp ; with_reducible refine hK _ ?_ ; clear hK K)
                    refine wpStill_nil ?_
                    change wpList _ _ _ _ _ wr.drew
                    have HG9 := hide (HG.out.later (Below.refl wr.heap.size wr).drew)
                    have HI9 := hide (ints_bel HI.out (Below.refl wr.heap.size wr).drew)
                    generalize World.drew wr = w10 at *
                    go_wp2_with fail
                    go_roundw
                    case rel => exact ⟨j + 1, false, by have := HJ.out; omega, by go_num, rfl, hide (fun h => by cases h), HG9.out, HI9.out⟩
                    case measure => have := HJ.out; simp [intOf]; omega
                  · obtain ⟨cb, co, rfl, q1⟩ := ints_get HI.out (k := j) (by omega)
                    have q2 := ints_get2 HI.out (k := j + 1) hlj
                    have hx1 := HQ0.out _ (getD_mem OT j (d := 0) (by omega))
                    have hx2 := HQ0.out _ (getD_mem OT (j + 1) (d := 0) hlj)
                    have HNX : Hid (R0 (OT.getD j 0) (OT.getD (j + 1) 0) = true → ∀ i, i < j + 1 → R0 (OT.getD i 0) (OT.getD (i + 1) 0) = true) := hide (fun h i hi => by
                      rcases Nat.lt_or_ge i j with h1 | h1
                      · exact HQ.out rfl i h1
                      · obtain rfl : i = j := by omega
                        exact h)
                    generalize OT.getD j 0 = x1 at *
                    generalize OT.getD (j + 1) 0 = x2 at *
                    have HC := hide (fun W hp => HBF.out (.slice pa ps.length pc) W x1 x2 hx1 hx2 hp)
                    have c0 := HG.out.bP.cell 0 rfl
                    have c1 := HG.out.bP.cell 1 rfl
                    have hjI : (j : Int) < OT.length := by omega
                    have hj0 : (0 : Int) ≤ (j : Int) + 1 := by omega
                    have hw1 : IntKind.i64.wrap ((j : Int) + 1 - 1) = j := by rw [show (j : Int) + 1 - 1 = j by omega]; exact IntWalk.i64_in _ ⟨by omega, by omega⟩
                    have hw2 : IntKind.i64.wrap (j : Int) = j := IntWalk.i64_in _ ⟨by omega, by omega⟩
                    go_wp2_with fail
                    refine wp_region_still_tail 12 (by kernel_rfl) (by kernel_rfl) ?_
                    simp only [List.take_succ_cons, List.take_zero, List.drop_succ_cons, List.drop_zero]
                    repeat (with_reducible refine wpStill_step (fun K hK => ?_) ; go_simp ; with_reducible refine hK _ ?_ ; clear hK K)
                    refine wpStill_nil ?_
                    change wpList _ _ _ _ _ wr.drew
                    have HG9 := hide (HG.out.later (Below.refl wr.heap.size wr).drew)
                    have HI9 := hide (ints_bel HI.out (Below.refl wr.heap.size wr).drew)
                    generalize World.drew wr = w10 at *
                    clear q1 q2 c0 c1
                    go_wp2_with fail
                    refine (HC.out _ HG9.out.hp).mono ?_
                    rintro e w11 ⟨rfl, hb11⟩
                    have HG10 := hide (HG9.out.later hb11)
                    have HI10 := hide (ints_bel HI9.out hb11)
                    clear hb11 HC
                    generalize R0 x1 x2 = rq at *
                    go_wp2_with fail
                    go_roundw
                    case rel => exact ⟨j + 1, rq, by have := HJ.out; omega, by go_num, rfl, hide (fun h => HNX.out h), HG10.out, HI10.out⟩
                    case measure => have := HJ.out; simp [intOf]; omega
                · have hcl2 : ((CH.length : Int) == (TP k : Int)) = true := by rw [HTP.out]; simp
                  have hcl3 : (CH.length : Int) = TP k := by rw [HTP.out]
                  have htpn := HTPN.out
                  have hw1 : IntKind.i64.wrap ((TP k : Int) - 1 + 1) = TP k := by rw [show (TP k : Int) - 1 + 1 = TP k by omega]; exact IntWalk.i64_in _ ⟨by omega, by omega⟩
                  cases qb
                  · go_wp2_with fail
                    go_ret
                    exact ⟨rfl, HG.out.hb⟩
                  · have hle := HQ1.out (fun i hi => HQ.out rfl i (by omega))
                    have hleI : (OT.length : Int) ≤ CH.length := by omega
                    have hleT : (OT.length : Int) ≤ TP k := by omega
                    have hleN : OT.length ≤ TP k := by omega
                    go_wp2_with fail
                    go_ret
                    exact ⟨rfl, HG.out.hb⟩
end Go.Proofs.YtnidcoinfmcffaaDoor
