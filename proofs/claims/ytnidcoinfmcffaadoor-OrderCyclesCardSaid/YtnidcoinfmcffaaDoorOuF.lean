/- The walk of OrderCycles. Conditions: how the arguments and the tables of math/bits lie in memory; that integers are of 64 bits. -/
import Derived.Test.YtnidcoinfmcffaaDoorOtH
namespace Go.Proofs.YtnidcoinfmcffaaDoor
open Go.RowKit
attribute [local go_sem] Oper.semAt_some
theorem loose_formK (N : Nat) (hN : N ≤ 8) (xs : List (Int × Int)) : formedO ⟨(N : Int), looseL N xs⟩ = true := by
  unfold formedO
  have := loose_len N xs
  rw [decide_eq_true (by simp only; omega), decide_eq_true (by simp only; omega), Bool.true_and, Bool.true_and, List.all_eq_true]
  exact loose_all N xs
theorem round_dom {N : Nat} {qs : List (Int × Int)} (hF : formedO ⟨(N : Int), qs⟩ = true) {l : List Nat} (h : RoundO (relP qs) l) : ∀ x ∈ l, x < N := fun x hx => by
  obtain ⟨i, hi, rfl⟩ := List.getElem_of_mem hx
  have := relP_dom hF _ _ (h.2 i hi)
  have h1 := this.1
  rw [List.getD_eq_getElem?_getD, List.getElem?_eq_getElem hi] at h1
  simpa using h1
theorem lex_at {c d : List Nat} (h : lexO c d) {k : Nat} (hk : ∀ j, j < k → c.getD j 0 = d.getD j 0) (hne : c.getD k 0 ≠ d.getD k 0) : c.getD k 0 < d.getD k 0 := by
  rcases h with rfl | ⟨i, -, -, h1, h2⟩
  · exact absurd rfl hne
  · rcases Nat.lt_trichotomy i k with h3 | rfl | h3
    · have := hk i h3; omega
    · exact h2
    · exact absurd (h1 k h3) hne
theorem against_facts {N : Nat} {qs : List (Int × Int)} (hF : formedO ⟨(N : Int), qs⟩ = true) (hql : qs.length ≤ 20) {a b : Nat} (h : befB ⟨(N : Int), qs⟩ a b = true) :
    formedO ⟨(N : Int), qs ++ [((b : Int), (a : Int))]⟩ = true ∧ validO ⟨(N : Int), qs ++ [((b : Int), (a : Int))]⟩ = false ∧ (cycF ⟨(N : Int), qs ++ [((b : Int), (a : Int))]⟩).isSome = true := by
  unfold befB at h
  simp only [Bool.and_eq_true, decide_eq_true_eq, Int.toNat_natCast] at h
  obtain ⟨⟨hv, h0⟩, hab⟩ := h
  have hne : a ≠ b := fun e => by
    subst e
    rw [(before_po hv).irr a] at hab; cases hab
  have hF2 : formedO ⟨(N : Int), qs ++ [((b : Int), (a : Int))]⟩ = true := by
    have h1 := formed_n hF
    unfold formedO at hF ⊢
    simp only [Bool.and_eq_true, decide_eq_true_eq, List.all_append, List.all_cons, List.all_nil, Bool.and_true] at hF ⊢
    refine ⟨⟨hF.1.1, by rw [List.length_append, List.length_singleton]; omega⟩, hF.2, ?_⟩
    unfold pairOkO
    rw [decide_eq_true_eq]
    simp only
    omega
  have hV2 : validO ⟨(N : Int), qs ++ [((b : Int), (a : Int))]⟩ = false := by
    cases e : validO ⟨(N : Int), qs ++ [((b : Int), (a : Int))]⟩ with
    | false => rfl
    | true =>
      have hba : beforeO ⟨(N : Int), qs ++ [((b : Int), (a : Int))]⟩ b a = true := before_sub (relP_iff.2 (by simp))
      have hab2 : beforeO ⟨(N : Int), qs ++ [((b : Int), (a : Int))]⟩ a b = true := before_least (o := ⟨(N : Int), qs⟩) (s := beforeO ⟨(N : Int), qs ++ [((b : Int), (a : Int))]⟩) (fun x y hxy => before_sub (relP_iff.2 (List.mem_append_left _ (relP_iff.1 hxy)))) (fun _ _ _ h1 h2 => before_tr hF2 h1 h2) hab
      have := before_tr hF2 hab2 hba
      rw [(before_po e).irr a] at this; cases this
  refine ⟨hF2, hV2, ?_⟩
  have h3 := cyc_valid hF2
  rw [hV2] at h3
  unfold cycF
  rw [if_pos hF2]
  cases e : cycO ((N : Int)).toNat (relP (qs ++ [((b : Int), (a : Int))])) with
  | some _ => rfl
  | none => rw [show cycO (OrderD.n ⟨(N : Int), qs ++ [((b : Int), (a : Int))]⟩).toNat (relP (OrderD.pairs ⟨(N : Int), qs ++ [((b : Int), (a : Int))]⟩)) = none from e] at h3; cases h3
theorem pk_take {ls : List Int} {k : Nat} (hk : k < ls.length) : natsO ((ls.take (k + 1)).map fun y => pkO y 8) = natsO ((ls.take k).map fun y => pkO y 8) ++ [((pkO (ls.getD k 0) 8 : Nat) : Int)] := by
  rw [take_succ' ls k 0 hk, List.map_append]
  unfold natsO
  rw [List.map_append]; rfl
/-- what stands beside the lists -/
structure CyG (w : World) (P N : Nat) (qs : List (Int × Int)) (ls : List Int) (pv lv : Value) (W : World) : Prop where
  bP : Blk W P [.int .i64 (N : Nat), pv] 25
  hp : PairsIn W.cell? pv qs
  hl : IntsIn W.cell? lv ls
  hb : Below w.heap.size w W
theorem CyG.later {w : World} {P N : Nat} {qs : List (Int × Int)} {ls : List Int} {pv lv : Value} {W W' : World} (h : CyG w P N qs ls pv lv W) (hb : Below W.heap.size W W') : CyG w P N qs ls pv lv W' :=
  ⟨h.bP.later hb, h.hp.below hb, ints_bel h.hl hb, below2 h.hb hb⟩
set_option maxRecDepth 100000 in
set_option maxHeartbeats 4000000 in
theorem cycles_none (n : Int) (xs : List (Int × Int)) (xv : Value) (ls : List Int) (lv : Value) (a0 b0 : Int) (w : World) (hn : i64B n) (hx : PairsIn w.cell? xv xs) (h64 : ∀ p ∈ xs, i64B p.1 ∧ i64B p.2) (hl : IntsIn w.cell? lv ls) (hl64 : ∀ x ∈ ls, i64B x) (ha : i64B a0) (hb : i64B b0) (hGl : Glob w)
    (hcy : cycO (looseN n) (relP (looseL (looseN n) xs)) = none) :
    Calls Tryd.prog 8 #[.int .i64 n, xv, lv, .int .i64 a0, .int .i64 b0] w (Ret (.bool true) w) := by
  have HLO := hide (fun W (hb : Below w.heap.size w W) => loose_any n xs xv W hn (RecIn.below hb hx) h64)
  have hN8 := looseN_le n
  have HPA := hide (fun W => pickl_any a0 8 W ha (by decide) (by decide))
  have HPB := hide (fun W => pickl_any b0 8 W hb (by decide) (by decide))
  have ha8 := pk_lt a0 (n := 8) (by decide)
  have hb8 := pk_lt b0 (n := 8) (by decide)
  have HPI := hide (fun y (hy : y ∈ ls) W => pickl_any y 8 W (hl64 y hy) (by decide) (by decide))
  generalize pkO a0 8 = a at *
  generalize pkO b0 8 = b at *
  have hF := loose_formK _ hN8 xs
  have hql := loose_len (looseN n) xs
  generalize looseL (looseN n) xs = qs at *
  generalize looseN n = N at *
  have HFO := hide (fun pv W hp => formed_any ⟨(N : Int), qs⟩ pv W hp)
  have HVO := hide (fun pv W hp => valid_any ⟨(N : Int), qs⟩ pv W hp)
  have HCY := hide (fun pv W hp => cycle_any ⟨(N : Int), qs⟩ pv W hp)
  rw [hF] at HFO
  have hcv := cyc_valid hF
  rw [show cycO (OrderD.n ⟨(N : Int), qs⟩).toNat (relP (OrderD.pairs ⟨(N : Int), qs⟩)) = none from hcy] at hcv
  rw [show cycF ⟨(N : Int), qs⟩ = none by unfold cycF; rw [if_pos hF]; exact hcy] at HCY
  rw [hcv] at HVO
  have HAG := hide (fun h => against_facts hF hql (a := a) (b := b) h)
  have HF := hide hF
  have HCV := hide hcv
  obtain ⟨xa, xc, rfl, -, -, -⟩ := id hx
  obtain ⟨la, lc, rfl, hl1, hl2, -⟩ := id hl
  have hlI : (ls.length : Int) ≤ 9223372036854775807 := by omega
  have HLS := hide hl
  clear hx h64 hn hl hF hcv ha hb hl1 hl2
  go_enter Tryd.func8, Tryd.ntmps8
  go_wp2_with fail
  refine (sane_any w hGl).mono ?_
  rintro e w1 ⟨rfl, hb1⟩
  clear hGl
  go_wp2_with fail
  refine (HLO.out _ hb1).mono ?_
  rintro e w2 ⟨pv, rfl, hO, hb2⟩
  have hp2 : PairsIn w2.cell? pv qs := RecIn.at (RecIn.of_own hO (fun _ => rfl) (Nat.le_refl _))
  have hw2 := below2 hb1 hb2
  obtain ⟨pa, pc, rfl⟩ := OwnR.formE hO
  rw [List.length_map] at hp2 ⊢
  clear hO hb1 hb2 HLO
  go_upto_region 5 with (fail)
  generalize hY1 : World.alloc w2 _ = Y1
  have zY1 : Y1.heap.size = w2.heap.size + 1 := by rw [← hY1]; simp
  have bY1 : Below w2.heap.size w2 Y1 := by rw [← hY1]; exact bal w2 _
  have bP : Blk Y1 (w2.heap.size) [.int .i64 (N : Nat), .slice pa qs.length pc] 25 := by rw [← hY1]; exact Blk.newA w2 _ (by first | rfl | simp)
  have Yb := bY1
  have Yz := zY1
  clear hY1 zY1 bY1
  obtain ⟨P, hP⟩ : ∃ P, w2.heap.size = P := ⟨_, rfl⟩
  rw [hP] at bP ⊢
  have hG : CyG w P N qs ls (.slice pa qs.length pc) (.slice la ls.length lc) Y1 := ⟨bP, RecIn.below Yb hp2, ints_bel HLS.out (below2 hw2 Yb), below2 hw2 Yb⟩
  clear hp2 hw2 Yb Yz hP bP HLS
  have c0 := hG.bP.cell 0 rfl
  have c1 := hG.bP.cell 1 rfl
  go_wp2_with fail
  refine (HCY.out _ _ hG.hp).mono ?_
  rintro e w3 ⟨cv, rfl, hv, hb3⟩
  have hG3 := hG.later hb3
  have hci := IntsIn.at hv
  clear hv hb3 hG c0 c1 HCY
  have c0 := hG3.bP.cell 0 rfl
  have c1 := hG3.bP.cell 1 rfl
  have HRN := hide (fun l => (show roundB (relP qs) l = false by
    cases e : roundB (relP qs) l
    · rfl
    · obtain ⟨c, h, -⟩ := cyc_first (n := N) (rel_irr HF.out) (round_iff.1 e) (round_dom HF.out (round_iff.1 e))
      rw [hcy] at h; cases h))
  clear hcy HCV
  go_wp2_with fail
  refine (HFO.out _ _ hG3.hp).mono ?_
  rintro e w4 ⟨rfl, hb4⟩
  have hG4 := hG3.later hb4
  have hci4 := ints_bel hci hb4
  clear hb4 hG3 hci c0 c1 HFO
  have c0 := hG4.bP.cell 0 rfl
  have c1 := hG4.bP.cell 1 rfl
  go_wp2_with fail
  refine (HVO.out _ _ hG4.hp).mono ?_
  rintro e w5 ⟨rfl, hb5⟩
  have hG5 := hG4.later hb5
  have hci5 := ints_bel hci4 hb5
  clear hb5 hG4 hci4 c0 c1 HVO
  clear hci5
  have HG10 := hide hG5
  clear hG5
  go_wp2_with fail
  go_loopw [17, 18] (fun v i wr => ∃ k : Nat, k ≤ ls.length ∧ k ≤ 8 ∧ i = .int .i64 k ∧ OwnI wr w5.heap.size v (natsO ((ls.take k).map fun y => pkO y 8)) ∧ Below w5.heap.size w5 wr) (fun _ i _ => ls.length - (intOf i).toNat)
  case atStart => exact ⟨0, by omega, by omega, rfl, OwnI.nil _ _, Below.refl _ _⟩
  case round =>
    obtain ⟨k, hk, hk8, rfl, hO, hbr⟩ := hrel
    obtain ⟨va, vc, rfl⟩ := hO.form
    rw [natsO_len, List.length_map, List.length_take, Nat.min_eq_left hk] at hO ⊢
    have HGW := hide (HG10.out.later hbr)
    by_cases hlt : k < ls.length
    · have hltI : (k : Int) < ls.length := by omega
      by_cases hlt8 : k < 8
      · have hlt8I : (k : Int) < 8 := by omega
        have HK := hide hlt
        have HK8 := hide hlt8
        obtain ⟨a', m', e', -, -, hc⟩ := HGW.out.hl
        obtain ⟨rfl, -, -⟩ := Value.slice.inj e'
        obtain ⟨lb, lo, rfl, q1⟩ := hc k hlt
        have HP1 := hide (HPI.out _ (getD_mem ls k (d := 0) hlt))
        have HTK := hide (pk_take hlt)
        obtain ⟨y, hy⟩ : ∃ y, ls.getD k 0 = y := ⟨_, rfl⟩
        rw [hy] at q1 HP1 HTK
        have hqn : (natsO ((ls.take k).map fun y => pkO y 8)).length = k := by rw [natsO_len, List.length_map, List.length_take, Nat.min_eq_left hk]
        generalize natsO ((ls.take k).map fun y => pkO y 8) = q at *
        generalize pkO y 8 = z at *
        have HO := hide hO
        have HBR := hide hbr
        clear hc e' hy hO hbr
        go_wp2_with fail
        refine (HP1.out _).mono ?_
        rintro e w11 ⟨rfl, hw11⟩
        obtain rfl := hw11
        clear q1
        have hO := HO.out
        have hsz := HBR.out.size
        have hql : q.length < 1000000 := by omega
        go_wp2_with (at_builtin; refine app_intE rfl _ _ rfl w5.heap.size _ q rfl hO (z : Int) rfl hql hsz ?_; intro v3 w3 hO3 hE3 hob3; have HB3 := hide (HBR.out.trans (hE3.below hsz (fun k e => (hO.ltB e.symm).1))); have HO3 := hide hO3; clear hO3 hE3 hob3)
        go_roundw
        case rel => exact ⟨k + 1, by have := HK.out; omega, by have := HK8.out; omega, by go_num, by rw [HTK.out]; exact HO3.out, HB3.out⟩
        case measure => have := HK.out; simp [intOf]; omega
      · have hlt8I : ¬ (k : Int) < 8 := by omega
        have hOI := hO.ints
        have hkl : ((ls.take k).map fun y => pkO y 8).length = k := by rw [List.length_map, List.length_take, Nat.min_eq_left hk]
        generalize ((ls.take k).map fun y => pkO y 8) = oth at *
        have hkI : (k : Int) ≤ 9223372036854775807 := by omega
        have HOI := hide hOI
        clear hOI hO hbr
        have c0 := HGW.out.bP.cell 0 rfl
        have c1 := HGW.out.bP.cell 1 rfl
        go_wp2_with fail
        refine (round_any _ qs _ oth _ _ HGW.out.hp HOI.out).mono ?_
        rintro e w20 ⟨rfl, hb20⟩
        rw [HRN.out]
        have HT := hide (HGW.out.later hb20)
        clear c0 c1 hb20 HGW
        go_wp2_with fail
        refine (HPA.out _).mono ?_
        rintro e w21 ⟨rfl, hw21⟩
        obtain rfl := hw21
        go_wp2_with fail
        refine (HPB.out _).mono ?_
        rintro e w22 ⟨rfl, hw22⟩
        obtain rfl := hw22
        have c0 := HT.out.bP.cell 0 rfl
        have c1 := HT.out.bP.cell 1 rfl
        go_wp2_with fail
        refine (before_any ⟨(N : Int), qs⟩ _ a b _ HT.out.hp).mono ?_
        rintro e w23 ⟨rfl, hb23⟩
        have hT := HT.out.later hb23
        clear c0 c1 hb23
        cases ht : befB ⟨(N : Int), qs⟩ a b
        · go_wp2_with fail
          go_ret
          exact ⟨rfl, hT.hb⟩
        · obtain ⟨hf2, hv2, hs2⟩ := HAG.out ht
          have HFF := hide (fun v W hp => formed_any ⟨(N : Int), qs ++ [((b : Int), (a : Int))]⟩ v W hp)
          have HVV := hide (fun v W hp => valid_any ⟨(N : Int), qs ++ [((b : Int), (a : Int))]⟩ v W hp)
          have HCC := hide (fun v W hp => cycle_any ⟨(N : Int), qs ++ [((b : Int), (a : Int))]⟩ v W hp)
          rw [hf2] at HFF
          rw [hv2] at HVV
          have HPS := hide hT.hp
          have HT2 := hide hT
          have c0 := hT.bP.cell 0 rfl
          have c1 := hT.bP.cell 1 rfl
          have hqm : qs.length ≤ 1000 := by omega
          clear ht hf2 hv2 hT HT
          go_upto_region 37 with (fail)
          generalize w23 = V at *
          refine wp_region_inv [some 139, some 140, some 141, some 142, some 143, some 144, some 145, some 146, some 147, some 148, some 149, some 150, some 20, none] (fun L vs W => match vs with | [x0, x1, x2, x3, x4, x5, x6, x7, x8, x9, x10, x11, x12, x13] => (Below V.heap.size V W) ∧ (L 0 = true → x0 = .pointer (some ⟨P, 0, none⟩)) ∧ (L 1 = true → x1 = .int .i64 (N : Nat)) ∧ (L 2 = true → (L 5 = false → ∃ b0 : Nat, x2 = .slice (some ⟨b0, 0, none⟩) 0 0 ∧ OwnR W V.heap.size 46 2 (.slice (some ⟨b0, 0, none⟩) 0 0) [])) ∧ (L 3 = true → x3 = .pointer (some ⟨P, 1, none⟩)) ∧ (L 4 = true → x4 = .slice pa qs.length pc) ∧ (L 5 = true → (L 10 = false → ∃ va vc, x5 = .slice va qs.length vc ∧ OwnR W V.heap.size 46 2 (.slice va qs.length vc) (List.map pairC qs))) ∧ (L 6 = true → x6 = .int .i64 ((b : Nat) : Int)) ∧ (L 7 = true → x7 = .int .i64 ((a : Nat) : Int)) ∧ (L 8 = true → x8 = .agg #[.int .i64 ((b : Nat) : Int), .int .i64 ((a : Nat) : Int)]) ∧ (L 9 = true → (L 10 = false → ∃ b0 : Nat, x9 = .slice (some ⟨b0, 0, none⟩) 1 1 ∧ Blk W b0 (pairC (((b : Nat) : Int), ((a : Nat) : Int))) 46)) ∧ (L 10 = true → ∃ g c, x10 = .slice (some ⟨g, 0, none⟩) (qs.length + 1) c ∧ OwnR W V.heap.size 46 2 (.slice (some ⟨g, 0, none⟩) (qs.length + 1) c) (List.map pairC (qs ++ [(((b : Nat) : Int), ((a : Nat) : Int))]))) ∧ (L 11 = true → L 10 = true ∧ ∃ g c, x10 = .slice (some ⟨g, 0, none⟩) (qs.length + 1) c ∧ x11 = .agg #[.int .i64 (N : Nat), .slice (some ⟨g, 0, none⟩) (qs.length + 1) c]) ∧ (L 12 = true → (L 13 = false → ∃ b0 : Nat, V.heap.size ≤ b0 ∧ x12 = .pointer (some ⟨b0, 0, none⟩) ∧ Blk W b0 [.int .i64 0, .slice none 0 0] 25)) ∧ (L 13 = true → (L 10 = true ∧ L 12 = true) ∧ NewO V (N : Nat) (qs.length + 1) (qs ++ [(((b : Nat) : Int), ((a : Nat) : Int))]) x12 W) | _ => False) [_, _, _, _, _, _, _, _, _, _, _, _, _, undef] (by kernel_rfl) (by kernel_rfl) rfl (by simp only [puts, Act.put, List.setIfInBounds_toArray, List.set_cons_zero, List.set_cons_succ] <;> rfl) ?_ ?_ ?_
          · exact ⟨(Below.refl _ _).drew, (fun h => by cases h), (fun h => by cases h), (fun h => by cases h), (fun h => by cases h), (fun h => by cases h), (fun h => by cases h), (fun h => by cases h), (fun h => by cases h), (fun h => by cases h), (fun h => by cases h), (fun h => by cases h), (fun h => by cases h), (fun h => by cases h), (fun h => by cases h)⟩
          · refine ⟨?_, ?_, ?_, ?_, ?_, ?_, ?_, ?_, ?_, ?_, ?_, ?_, ?_, ?_, trivial⟩
            · intro L vs W hlen hL hD hI K hK
              obtain ⟨x0, x1, x2, x3, x4, x5, x6, x7, x8, x9, x10, x11, x12, x13, rfl⟩ := len14 hlen
              have hG := hI.1
              replace hI := hI.2
              have f0 := hide hI.1
              replace hI := hI.2
              have f1 := hide hI.1
              replace hI := hI.2
              have f2 := hide hI.1
              replace hI := hI.2
              have f3 := hide hI.1
              replace hI := hI.2
              have f4 := hide hI.1
              replace hI := hI.2
              have f5 := hide hI.1
              replace hI := hI.2
              have f6 := hide hI.1
              replace hI := hI.2
              have f7 := hide hI.1
              replace hI := hI.2
              have f8 := hide hI.1
              replace hI := hI.2
              have f9 := hide hI.1
              replace hI := hI.2
              have f10 := hide hI.1
              replace hI := hI.2
              have f11 := hide hI.1
              replace hI := hI.2
              have f12 := hide hI.1
              replace hI := hI.2
              have f13 := hide hI
              clear hI
              have c0 := keep hG c0
              have c1 := keep hG c1
              try simp only [puts, Act.put, List.setIfInBounds_toArray, List.set_cons_zero, List.set_cons_succ]
              try go_simp
              exact hK.out _ _ _ (by simp only [puts, Act.put, List.setIfInBounds_toArray, List.set_cons_zero, List.set_cons_succ] <;> rfl) ⟨hG, (fun _ => rfl), (fun h => f1.out h), (fun h => f2.out h), (fun h => f3.out h), (fun h => f4.out h), (fun h => f5.out h), (fun h => f6.out h), (fun h => f7.out h), (fun h => f8.out h), (fun h => f9.out h), (fun h => f10.out h), (fun h => f11.out h), (fun h => f12.out h), (fun h => f13.out h)⟩
            · intro L vs W hlen hL hD hI K hK
              obtain ⟨x0, x1, x2, x3, x4, x5, x6, x7, x8, x9, x10, x11, x12, x13, rfl⟩ := len14 hlen
              have hG := hI.1
              replace hI := hI.2
              have f0 := hide hI.1
              replace hI := hI.2
              have f1 := hide hI.1
              replace hI := hI.2
              have f2 := hide hI.1
              replace hI := hI.2
              have f3 := hide hI.1
              replace hI := hI.2
              have f4 := hide hI.1
              replace hI := hI.2
              have f5 := hide hI.1
              replace hI := hI.2
              have f6 := hide hI.1
              replace hI := hI.2
              have f7 := hide hI.1
              replace hI := hI.2
              have f8 := hide hI.1
              replace hI := hI.2
              have f9 := hide hI.1
              replace hI := hI.2
              have f10 := hide hI.1
              replace hI := hI.2
              have f11 := hide hI.1
              replace hI := hI.2
              have f12 := hide hI.1
              replace hI := hI.2
              have f13 := hide hI
              clear hI
              have c0 := keep hG c0
              have c1 := keep hG c1
              obtain rfl := f0.out (hD.on 0 (by kernel_rfl))
              try simp only [puts, Act.put, List.setIfInBounds_toArray, List.set_cons_zero, List.set_cons_succ]
              try go_simp
              exact hK.out _ _ _ (by simp only [puts, Act.put, List.setIfInBounds_toArray, List.set_cons_zero, List.set_cons_succ] <;> rfl) ⟨hG, (fun h => f0.out h), (fun _ => rfl), (fun h => f2.out h), (fun h => f3.out h), (fun h => f4.out h), (fun h => f5.out h), (fun h => f6.out h), (fun h => f7.out h), (fun h => f8.out h), (fun h => f9.out h), (fun h => f10.out h), (fun h => f11.out h), (fun h => f12.out h), (fun h => f13.out h)⟩
            · intro L vs W hlen hL hD hI K hK
              obtain ⟨x0, x1, x2, x3, x4, x5, x6, x7, x8, x9, x10, x11, x12, x13, rfl⟩ := len14 hlen
              have hG := hI.1
              replace hI := hI.2
              have f0 := hide hI.1
              replace hI := hI.2
              have f1 := hide hI.1
              replace hI := hI.2
              have f2 := hide hI.1
              replace hI := hI.2
              have f3 := hide hI.1
              replace hI := hI.2
              have f4 := hide hI.1
              replace hI := hI.2
              have f5 := hide hI.1
              replace hI := hI.2
              have f6 := hide hI.1
              replace hI := hI.2
              have f7 := hide hI.1
              replace hI := hI.2
              have f8 := hide hI.1
              replace hI := hI.2
              have f9 := hide hI.1
              replace hI := hI.2
              have f10 := hide hI.1
              replace hI := hI.2
              have f11 := hide hI.1
              replace hI := hI.2
              have f12 := hide hI.1
              replace hI := hI.2
              have f13 := hide hI
              clear hI
              have c0 := keep hG c0
              have c1 := keep hG c1
              try simp only [puts, Act.put, List.setIfInBounds_toArray, List.set_cons_zero, List.set_cons_succ]
              try go_simp
              generalize hW' : World.alloc W _ = W'
              have hb : Below W.heap.size W W' := by rw [← hW']; exact bal W _
              exact hK.out _ _ _ (by simp only [puts, Act.put, List.setIfInBounds_toArray, List.set_cons_zero, List.set_cons_succ] <;> rfl) ⟨below2 hG hb, (fun h => f0.out h), (fun h => f1.out h), (fun _ => fun _ => ⟨W.heap.size, rfl, by rw [← hW']; exact lit_recsK W _ 2 hG.size⟩), (fun h => f3.out h), (fun h => f4.out h), (fun h => (fun h => fun h8 => let ⟨va, vc, e, o⟩ := h h8; ⟨va, vc, e, OwnR.later' o hb⟩) (f5.out h)), (fun h => f6.out h), (fun h => f7.out h), (fun h => f8.out h), (fun h => (fun h => fun h8 => let ⟨b0, e, o⟩ := h h8; ⟨b0, e, o.later hb⟩) (f9.out h)), (fun h => (fun h => let ⟨g, c, e, o⟩ := h; ⟨g, c, e, OwnR.later' o hb⟩) (f10.out h)), (fun h => f11.out h), (fun h => (fun h => fun h8 => let ⟨b0, h0, e, k⟩ := h h8; ⟨b0, h0, e, k.later hb⟩) (f12.out h)), (fun h => (fun h => ⟨h.1, let ⟨b, g, c, e, k, o, q⟩ := h.2; ⟨b, g, c, e, k.later hb, OwnR.later' o hb, q⟩⟩) (f13.out h))⟩
            · intro L vs W hlen hL hD hI K hK
              obtain ⟨x0, x1, x2, x3, x4, x5, x6, x7, x8, x9, x10, x11, x12, x13, rfl⟩ := len14 hlen
              have hG := hI.1
              replace hI := hI.2
              have f0 := hide hI.1
              replace hI := hI.2
              have f1 := hide hI.1
              replace hI := hI.2
              have f2 := hide hI.1
              replace hI := hI.2
              have f3 := hide hI.1
              replace hI := hI.2
              have f4 := hide hI.1
              replace hI := hI.2
              have f5 := hide hI.1
              replace hI := hI.2
              have f6 := hide hI.1
              replace hI := hI.2
              have f7 := hide hI.1
              replace hI := hI.2
              have f8 := hide hI.1
              replace hI := hI.2
              have f9 := hide hI.1
              replace hI := hI.2
              have f10 := hide hI.1
              replace hI := hI.2
              have f11 := hide hI.1
              replace hI := hI.2
              have f12 := hide hI.1
              replace hI := hI.2
              have f13 := hide hI
              clear hI
              have c0 := keep hG c0
              have c1 := keep hG c1
              try simp only [puts, Act.put, List.setIfInBounds_toArray, List.set_cons_zero, List.set_cons_succ]
              try go_simp
              exact hK.out _ _ _ (by simp only [puts, Act.put, List.setIfInBounds_toArray, List.set_cons_zero, List.set_cons_succ] <;> rfl) ⟨hG, (fun h => f0.out h), (fun h => f1.out h), (fun h => f2.out h), (fun _ => rfl), (fun h => f4.out h), (fun h => f5.out h), (fun h => f6.out h), (fun h => f7.out h), (fun h => f8.out h), (fun h => f9.out h), (fun h => f10.out h), (fun h => f11.out h), (fun h => f12.out h), (fun h => f13.out h)⟩
            · intro L vs W hlen hL hD hI K hK
              obtain ⟨x0, x1, x2, x3, x4, x5, x6, x7, x8, x9, x10, x11, x12, x13, rfl⟩ := len14 hlen
              have hG := hI.1
              replace hI := hI.2
              have f0 := hide hI.1
              replace hI := hI.2
              have f1 := hide hI.1
              replace hI := hI.2
              have f2 := hide hI.1
              replace hI := hI.2
              have f3 := hide hI.1
              replace hI := hI.2
              have f4 := hide hI.1
              replace hI := hI.2
              have f5 := hide hI.1
              replace hI := hI.2
              have f6 := hide hI.1
              replace hI := hI.2
              have f7 := hide hI.1
              replace hI := hI.2
              have f8 := hide hI.1
              replace hI := hI.2
              have f9 := hide hI.1
              replace hI := hI.2
              have f10 := hide hI.1
              replace hI := hI.2
              have f11 := hide hI.1
              replace hI := hI.2
              have f12 := hide hI.1
              replace hI := hI.2
              have f13 := hide hI
              clear hI
              have c0 := keep hG c0
              have c1 := keep hG c1
              obtain rfl := f3.out (hD.on 3 (by kernel_rfl))
              try simp only [puts, Act.put, List.setIfInBounds_toArray, List.set_cons_zero, List.set_cons_succ]
              try go_simp
              exact hK.out _ _ _ (by simp only [puts, Act.put, List.setIfInBounds_toArray, List.set_cons_zero, List.set_cons_succ] <;> rfl) ⟨hG, (fun h => f0.out h), (fun h => f1.out h), (fun h => f2.out h), (fun h => f3.out h), (fun _ => rfl), (fun h => f5.out h), (fun h => f6.out h), (fun h => f7.out h), (fun h => f8.out h), (fun h => f9.out h), (fun h => f10.out h), (fun h => f11.out h), (fun h => f12.out h), (fun h => f13.out h)⟩
            · intro L vs W hlen hL hD hI K hK
              obtain ⟨x0, x1, x2, x3, x4, x5, x6, x7, x8, x9, x10, x11, x12, x13, rfl⟩ := len14 hlen
              have hG := hI.1
              replace hI := hI.2
              have f0 := hide hI.1
              replace hI := hI.2
              have f1 := hide hI.1
              replace hI := hI.2
              have f2 := hide hI.1
              replace hI := hI.2
              have f3 := hide hI.1
              replace hI := hI.2
              have f4 := hide hI.1
              replace hI := hI.2
              have f5 := hide hI.1
              replace hI := hI.2
              have f6 := hide hI.1
              replace hI := hI.2
              have f7 := hide hI.1
              replace hI := hI.2
              have f8 := hide hI.1
              replace hI := hI.2
              have f9 := hide hI.1
              replace hI := hI.2
              have f10 := hide hI.1
              replace hI := hI.2
              have f11 := hide hI.1
              replace hI := hI.2
              have f12 := hide hI.1
              replace hI := hI.2
              have f13 := hide hI
              clear hI
              have c0 := keep hG c0
              have c1 := keep hG c1
              have g2 := f2.out (hD.on 2 (by kernel_rfl))
              obtain rfl := f4.out (hD.on 4 (by kernel_rfl))
              try simp only [puts, Act.put, List.setIfInBounds_toArray, List.set_cons_zero, List.set_cons_succ]
              obtain ⟨b0, rfl, hO0⟩ := g2 hL
              refine step_copy rfl _ _ rfl V.heap.size b0 rfl hO0 pa qs.length pc (qs) rfl (RecIn.below hG HPS.out) hqm hG.size ?_
              intro va vc W' hO' hb
              exact hK.out _ _ _ (by simp only [puts, Act.put, List.setIfInBounds_toArray, List.set_cons_zero, List.set_cons_succ] <;> rfl) ⟨below2 hG hb, (fun h => f0.out h), (fun h => f1.out h), (fun h => (fun _ h8 => absurd h8 (by simp)) (f2.out h)), (fun h => f3.out h), (fun h => f4.out h), (fun _ => fun _ => ⟨va, vc, rfl, hO'⟩), (fun h => f6.out h), (fun h => f7.out h), (fun h => f8.out h), (fun h => (fun h => fun h8 => let ⟨b0, e, o⟩ := h h8; ⟨b0, e, o.later hb⟩) (f9.out h)), (fun h => (fun h => let ⟨g, c, e, o⟩ := h; ⟨g, c, e, OwnR.later' o hb⟩) (f10.out h)), (fun h => f11.out h), (fun h => (fun h => fun h8 => let ⟨b0, h0, e, k⟩ := h h8; ⟨b0, h0, e, k.later hb⟩) (f12.out h)), (fun h => (fun h => ⟨h.1, let ⟨b, g, c, e, k, o, q⟩ := h.2; ⟨b, g, c, e, k.later hb, OwnR.later' o hb, q⟩⟩) (f13.out h))⟩
            · intro L vs W hlen hL hD hI K hK
              obtain ⟨x0, x1, x2, x3, x4, x5, x6, x7, x8, x9, x10, x11, x12, x13, rfl⟩ := len14 hlen
              have hG := hI.1
              replace hI := hI.2
              have f0 := hide hI.1
              replace hI := hI.2
              have f1 := hide hI.1
              replace hI := hI.2
              have f2 := hide hI.1
              replace hI := hI.2
              have f3 := hide hI.1
              replace hI := hI.2
              have f4 := hide hI.1
              replace hI := hI.2
              have f5 := hide hI.1
              replace hI := hI.2
              have f6 := hide hI.1
              replace hI := hI.2
              have f7 := hide hI.1
              replace hI := hI.2
              have f8 := hide hI.1
              replace hI := hI.2
              have f9 := hide hI.1
              replace hI := hI.2
              have f10 := hide hI.1
              replace hI := hI.2
              have f11 := hide hI.1
              replace hI := hI.2
              have f12 := hide hI.1
              replace hI := hI.2
              have f13 := hide hI
              clear hI
              have c0 := keep hG c0
              have c1 := keep hG c1
              try simp only [puts, Act.put, List.setIfInBounds_toArray, List.set_cons_zero, List.set_cons_succ]
              try go_simp
              exact hK.out _ _ _ (by simp only [puts, Act.put, List.setIfInBounds_toArray, List.set_cons_zero, List.set_cons_succ] <;> rfl) ⟨hG, (fun h => f0.out h), (fun h => f1.out h), (fun h => f2.out h), (fun h => f3.out h), (fun h => f4.out h), (fun h => f5.out h), (fun _ => rfl), (fun h => f7.out h), (fun h => f8.out h), (fun h => f9.out h), (fun h => f10.out h), (fun h => f11.out h), (fun h => f12.out h), (fun h => f13.out h)⟩
            · intro L vs W hlen hL hD hI K hK
              obtain ⟨x0, x1, x2, x3, x4, x5, x6, x7, x8, x9, x10, x11, x12, x13, rfl⟩ := len14 hlen
              have hG := hI.1
              replace hI := hI.2
              have f0 := hide hI.1
              replace hI := hI.2
              have f1 := hide hI.1
              replace hI := hI.2
              have f2 := hide hI.1
              replace hI := hI.2
              have f3 := hide hI.1
              replace hI := hI.2
              have f4 := hide hI.1
              replace hI := hI.2
              have f5 := hide hI.1
              replace hI := hI.2
              have f6 := hide hI.1
              replace hI := hI.2
              have f7 := hide hI.1
              replace hI := hI.2
              have f8 := hide hI.1
              replace hI := hI.2
              have f9 := hide hI.1
              replace hI := hI.2
              have f10 := hide hI.1
              replace hI := hI.2
              have f11 := hide hI.1
              replace hI := hI.2
              have f12 := hide hI.1
              replace hI := hI.2
              have f13 := hide hI
              clear hI
              have c0 := keep hG c0
              have c1 := keep hG c1
              try simp only [puts, Act.put, List.setIfInBounds_toArray, List.set_cons_zero, List.set_cons_succ]
              try go_simp
              exact hK.out _ _ _ (by simp only [puts, Act.put, List.setIfInBounds_toArray, List.set_cons_zero, List.set_cons_succ] <;> rfl) ⟨hG, (fun h => f0.out h), (fun h => f1.out h), (fun h => f2.out h), (fun h => f3.out h), (fun h => f4.out h), (fun h => f5.out h), (fun h => f6.out h), (fun _ => rfl), (fun h => f8.out h), (fun h => f9.out h), (fun h => f10.out h), (fun h => f11.out h), (fun h => f12.out h), (fun h => f13.out h)⟩
            · intro L vs W hlen hL hD hI K hK
              obtain ⟨x0, x1, x2, x3, x4, x5, x6, x7, x8, x9, x10, x11, x12, x13, rfl⟩ := len14 hlen
              have hG := hI.1
              replace hI := hI.2
              have f0 := hide hI.1
              replace hI := hI.2
              have f1 := hide hI.1
              replace hI := hI.2
              have f2 := hide hI.1
              replace hI := hI.2
              have f3 := hide hI.1
              replace hI := hI.2
              have f4 := hide hI.1
              replace hI := hI.2
              have f5 := hide hI.1
              replace hI := hI.2
              have f6 := hide hI.1
              replace hI := hI.2
              have f7 := hide hI.1
              replace hI := hI.2
              have f8 := hide hI.1
              replace hI := hI.2
              have f9 := hide hI.1
              replace hI := hI.2
              have f10 := hide hI.1
              replace hI := hI.2
              have f11 := hide hI.1
              replace hI := hI.2
              have f12 := hide hI.1
              replace hI := hI.2
              have f13 := hide hI
              clear hI
              have c0 := keep hG c0
              have c1 := keep hG c1
              obtain rfl := f6.out (hD.on 6 (by kernel_rfl))
              obtain rfl := f7.out (hD.on 7 (by kernel_rfl))
              try simp only [puts, Act.put, List.setIfInBounds_toArray, List.set_cons_zero, List.set_cons_succ]
              try go_simp
              exact hK.out _ _ _ (by simp only [puts, Act.put, List.setIfInBounds_toArray, List.set_cons_zero, List.set_cons_succ] <;> rfl) ⟨hG, (fun h => f0.out h), (fun h => f1.out h), (fun h => f2.out h), (fun h => f3.out h), (fun h => f4.out h), (fun h => f5.out h), (fun h => f6.out h), (fun h => f7.out h), (fun _ => rfl), (fun h => f9.out h), (fun h => f10.out h), (fun h => f11.out h), (fun h => f12.out h), (fun h => f13.out h)⟩
            · intro L vs W hlen hL hD hI K hK
              obtain ⟨x0, x1, x2, x3, x4, x5, x6, x7, x8, x9, x10, x11, x12, x13, rfl⟩ := len14 hlen
              have hG := hI.1
              replace hI := hI.2
              have f0 := hide hI.1
              replace hI := hI.2
              have f1 := hide hI.1
              replace hI := hI.2
              have f2 := hide hI.1
              replace hI := hI.2
              have f3 := hide hI.1
              replace hI := hI.2
              have f4 := hide hI.1
              replace hI := hI.2
              have f5 := hide hI.1
              replace hI := hI.2
              have f6 := hide hI.1
              replace hI := hI.2
              have f7 := hide hI.1
              replace hI := hI.2
              have f8 := hide hI.1
              replace hI := hI.2
              have f9 := hide hI.1
              replace hI := hI.2
              have f10 := hide hI.1
              replace hI := hI.2
              have f11 := hide hI.1
              replace hI := hI.2
              have f12 := hide hI.1
              replace hI := hI.2
              have f13 := hide hI
              clear hI
              have c0 := keep hG c0
              have c1 := keep hG c1
              obtain rfl := f8.out (hD.on 8 (by kernel_rfl))
              try simp only [puts, Act.put, List.setIfInBounds_toArray, List.set_cons_zero, List.set_cons_succ]
              try go_simp
              generalize hW' : World.alloc W _ = W'
              have hb : Below W.heap.size W W' := by rw [← hW']; exact bal W _
              exact hK.out _ _ _ (by simp only [puts, Act.put, List.setIfInBounds_toArray, List.set_cons_zero, List.set_cons_succ] <;> rfl) ⟨below2 hG hb, (fun h => f0.out h), (fun h => f1.out h), (fun h => (fun h => fun h5 => let ⟨b0, e, o⟩ := h h5; ⟨b0, e, OwnR.later' o hb⟩) (f2.out h)), (fun h => f3.out h), (fun h => f4.out h), (fun h => (fun h => fun h8 => let ⟨va, vc, e, o⟩ := h h8; ⟨va, vc, e, OwnR.later' o hb⟩) (f5.out h)), (fun h => f6.out h), (fun h => f7.out h), (fun h => f8.out h), (fun _ => fun _ => ⟨W.heap.size, rfl, by rw [← hW']; exact Blk.newA W _ rfl⟩), (fun h => (fun h => let ⟨g, c, e, o⟩ := h; ⟨g, c, e, OwnR.later' o hb⟩) (f10.out h)), (fun h => f11.out h), (fun h => (fun h => fun h8 => let ⟨b0, h0, e, k⟩ := h h8; ⟨b0, h0, e, k.later hb⟩) (f12.out h)), (fun h => (fun h => ⟨h.1, let ⟨b, g, c, e, k, o, q⟩ := h.2; ⟨b, g, c, e, k.later hb, OwnR.later' o hb, q⟩⟩) (f13.out h))⟩
            · intro L vs W hlen hL hD hI K hK
              obtain ⟨x0, x1, x2, x3, x4, x5, x6, x7, x8, x9, x10, x11, x12, x13, rfl⟩ := len14 hlen
              have hG := hI.1
              replace hI := hI.2
              have f0 := hide hI.1
              replace hI := hI.2
              have f1 := hide hI.1
              replace hI := hI.2
              have f2 := hide hI.1
              replace hI := hI.2
              have f3 := hide hI.1
              replace hI := hI.2
              have f4 := hide hI.1
              replace hI := hI.2
              have f5 := hide hI.1
              replace hI := hI.2
              have f6 := hide hI.1
              replace hI := hI.2
              have f7 := hide hI.1
              replace hI := hI.2
              have f8 := hide hI.1
              replace hI := hI.2
              have f9 := hide hI.1
              replace hI := hI.2
              have f10 := hide hI.1
              replace hI := hI.2
              have f11 := hide hI.1
              replace hI := hI.2
              have f12 := hide hI.1
              replace hI := hI.2
              have f13 := hide hI
              clear hI
              have c0 := keep hG c0
              have c1 := keep hG c1
              have g5 := f5.out (hD.on 5 (by kernel_rfl))
              have g9 := f9.out (hD.on 9 (by kernel_rfl))
              try simp only [puts, Act.put, List.setIfInBounds_toArray, List.set_cons_zero, List.set_cons_succ]
              obtain ⟨va, vc, rfl, hO5⟩ := g5 hL
              obtain ⟨b0, rfl, hB0⟩ := g9 hL
              refine step_one' rfl _ _ rfl V.heap.size qs.length va vc (qs) (((b : Nat) : Int), ((a : Nat) : Int)) rfl hO5 b0 rfl hB0 hqm hG.size ?_
              intro g c W' hO' hE'
              have hb := effE_far hG hE'
              exact hK.out _ _ _ (by simp only [puts, Act.put, List.setIfInBounds_toArray, List.set_cons_zero, List.set_cons_succ] <;> rfl) ⟨hG.trans hb, (fun h => f0.out h), (fun h => f1.out h), (fun h => (fun _ h8 => absurd ((hD.on 5 (by kernel_rfl)).symm.trans h8) (by decide)) (f2.out h)), (fun h => f3.out h), (fun h => f4.out h), (fun h => (fun _ h8 => absurd h8 (by simp)) (f5.out h)), (fun h => f6.out h), (fun h => f7.out h), (fun h => f8.out h), (fun h => (fun _ h8 => absurd h8 (by simp)) (f9.out h)), (fun _ => ⟨g, c, rfl, hO'⟩), (fun h => (fun h => absurd (h.1.symm.trans hL) (by decide)) (f11.out h)), (fun h => (fun h h13 => let ⟨b0, h0, e, k⟩ := h h13; ⟨b0, h0, e, hE'.blk k (by decide)⟩) (f12.out h)), (fun h => (fun h => absurd (h.1.1.symm.trans hL) (by decide)) (f13.out h))⟩
            · intro L vs W hlen hL hD hI K hK
              obtain ⟨x0, x1, x2, x3, x4, x5, x6, x7, x8, x9, x10, x11, x12, x13, rfl⟩ := len14 hlen
              have hG := hI.1
              replace hI := hI.2
              have f0 := hide hI.1
              replace hI := hI.2
              have f1 := hide hI.1
              replace hI := hI.2
              have f2 := hide hI.1
              replace hI := hI.2
              have f3 := hide hI.1
              replace hI := hI.2
              have f4 := hide hI.1
              replace hI := hI.2
              have f5 := hide hI.1
              replace hI := hI.2
              have f6 := hide hI.1
              replace hI := hI.2
              have f7 := hide hI.1
              replace hI := hI.2
              have f8 := hide hI.1
              replace hI := hI.2
              have f9 := hide hI.1
              replace hI := hI.2
              have f10 := hide hI.1
              replace hI := hI.2
              have f11 := hide hI.1
              replace hI := hI.2
              have f12 := hide hI.1
              replace hI := hI.2
              have f13 := hide hI
              clear hI
              have c0 := keep hG c0
              have c1 := keep hG c1
              obtain rfl := f1.out (hD.on 1 (by kernel_rfl))
              have g10 := f10.out (hD.on 10 (by kernel_rfl))
              try simp only [puts, Act.put, List.setIfInBounds_toArray, List.set_cons_zero, List.set_cons_succ]
              obtain ⟨g, c, rfl, hO'⟩ := g10
              go_simp
              exact hK.out _ _ _ (by simp only [puts, Act.put, List.setIfInBounds_toArray, List.set_cons_zero, List.set_cons_succ] <;> rfl) ⟨hG, (fun h => f0.out h), (fun h => f1.out h), (fun h => f2.out h), (fun h => f3.out h), (fun h => f4.out h), (fun h => f5.out h), (fun h => f6.out h), (fun h => f7.out h), (fun h => f8.out h), (fun h => f9.out h), (fun h => f10.out h), (fun _ => ⟨hD.on 10 (by kernel_rfl), g, c, rfl, rfl⟩), (fun h => f12.out h), (fun h => f13.out h)⟩
            · intro L vs W hlen hL hD hI K hK
              obtain ⟨x0, x1, x2, x3, x4, x5, x6, x7, x8, x9, x10, x11, x12, x13, rfl⟩ := len14 hlen
              have hG := hI.1
              replace hI := hI.2
              have f0 := hide hI.1
              replace hI := hI.2
              have f1 := hide hI.1
              replace hI := hI.2
              have f2 := hide hI.1
              replace hI := hI.2
              have f3 := hide hI.1
              replace hI := hI.2
              have f4 := hide hI.1
              replace hI := hI.2
              have f5 := hide hI.1
              replace hI := hI.2
              have f6 := hide hI.1
              replace hI := hI.2
              have f7 := hide hI.1
              replace hI := hI.2
              have f8 := hide hI.1
              replace hI := hI.2
              have f9 := hide hI.1
              replace hI := hI.2
              have f10 := hide hI.1
              replace hI := hI.2
              have f11 := hide hI.1
              replace hI := hI.2
              have f12 := hide hI.1
              replace hI := hI.2
              have f13 := hide hI
              clear hI
              have c0 := keep hG c0
              have c1 := keep hG c1
              try simp only [puts, Act.put, List.setIfInBounds_toArray, List.set_cons_zero, List.set_cons_succ]
              try go_simp
              generalize hW' : World.alloc W _ = W'
              have hb : Below W.heap.size W W' := by rw [← hW']; exact bal W _
              exact hK.out _ _ _ (by simp only [puts, Act.put, List.setIfInBounds_toArray, List.set_cons_zero, List.set_cons_succ] <;> rfl) ⟨below2 hG hb, (fun h => f0.out h), (fun h => f1.out h), (fun h => (fun h => fun h5 => let ⟨b0, e, o⟩ := h h5; ⟨b0, e, OwnR.later' o hb⟩) (f2.out h)), (fun h => f3.out h), (fun h => f4.out h), (fun h => (fun h => fun h8 => let ⟨va, vc, e, o⟩ := h h8; ⟨va, vc, e, OwnR.later' o hb⟩) (f5.out h)), (fun h => f6.out h), (fun h => f7.out h), (fun h => f8.out h), (fun h => (fun h => fun h8 => let ⟨b0, e, o⟩ := h h8; ⟨b0, e, o.later hb⟩) (f9.out h)), (fun h => (fun h => let ⟨g, c, e, o⟩ := h; ⟨g, c, e, OwnR.later' o hb⟩) (f10.out h)), (fun h => f11.out h), (fun _ => fun _ => ⟨W.heap.size, hG.size, rfl, by rw [← hW']; exact Blk.newA W _ rfl⟩), (fun h => (fun h => absurd (h.1.2.symm.trans hL) (by decide)) (f13.out h))⟩
            · intro L vs W hlen hL hD hI K hK
              obtain ⟨x0, x1, x2, x3, x4, x5, x6, x7, x8, x9, x10, x11, x12, x13, rfl⟩ := len14 hlen
              have hG := hI.1
              replace hI := hI.2
              have f0 := hide hI.1
              replace hI := hI.2
              have f1 := hide hI.1
              replace hI := hI.2
              have f2 := hide hI.1
              replace hI := hI.2
              have f3 := hide hI.1
              replace hI := hI.2
              have f4 := hide hI.1
              replace hI := hI.2
              have f5 := hide hI.1
              replace hI := hI.2
              have f6 := hide hI.1
              replace hI := hI.2
              have f7 := hide hI.1
              replace hI := hI.2
              have f8 := hide hI.1
              replace hI := hI.2
              have f9 := hide hI.1
              replace hI := hI.2
              have f10 := hide hI.1
              replace hI := hI.2
              have f11 := hide hI.1
              replace hI := hI.2
              have f12 := hide hI.1
              replace hI := hI.2
              have f13 := hide hI
              clear hI
              have c0 := keep hG c0
              have c1 := keep hG c1
              have g10 := f10.out (hD.on 10 (by kernel_rfl))
              have g11 := f11.out (hD.on 11 (by kernel_rfl))
              have g12 := f12.out (hD.on 12 (by kernel_rfl))
              try simp only [puts, Act.put, List.setIfInBounds_toArray, List.set_cons_zero, List.set_cons_succ]
              obtain ⟨g, c, rfl, hO10⟩ := g10
              obtain ⟨-, g1, c1, e1, rfl⟩ := g11
              cases e1
              obtain ⟨b0, h0, rfl, hB0⟩ := g12 hL
              have z0 := hB0.cell 0 rfl
              have z1 := hB0.cell 1 rfl
              have zf0 := hB0.frozen 0
              have zf1 := hB0.frozen 1
              go_simp
              have hb := ((Below.refl (V.heap.size) W).setCell (p := ⟨b0, 0, none⟩) h0 (.int .i64 (N : Nat))).setCell (p := ⟨b0, 1, none⟩) h0 (.slice (some ⟨g, 0, none⟩) (qs.length + 1) c)
              exact hK.out _ undef _ (by simp only [puts, Act.put, List.setIfInBounds_toArray, List.set_cons_zero, List.set_cons_succ] <;> rfl) ⟨hG.trans hb, (fun h => f0.out h), (fun h => f1.out h), (fun h => (fun _ h8 => absurd ((hD.on 5 (by kernel_rfl)).symm.trans h8) (by decide)) (f2.out h)), (fun h => f3.out h), (fun h => f4.out h), (fun h => (fun _ h8 => absurd ((hD.on 10 (by kernel_rfl)).symm.trans h8) (by decide)) (f5.out h)), (fun h => f6.out h), (fun h => f7.out h), (fun h => f8.out h), (fun h => (fun _ h8 => absurd ((hD.on 10 (by kernel_rfl)).symm.trans h8) (by decide)) (f9.out h)), (fun h => (fun h => let ⟨g2, c2, e, o⟩ := h; ⟨g2, c2, e, (o.setO hB0 (by decide) (j := 0) _).setO (hB0.set 0 _) (by decide) (j := 1) _⟩) (f10.out h)), (fun h => f11.out h), (fun h => (fun _ h8 => absurd h8 (by simp)) (f12.out h)), (fun _ => ⟨⟨hD.on 10 (by kernel_rfl), hD.on 12 (by kernel_rfl)⟩, b0, g, c, rfl, (hB0.set 0 _).set 1 _, (hO10.setO hB0 (by decide) (j := 0) _).setO (hB0.set 0 _) (by decide) (j := 1) _, h0⟩)⟩
          intro L vs W hlen hall hI
          obtain ⟨x0, x1, x2, x3, x4, x5, x6, x7, x8, x9, x10, x11, x12, x13, rfl⟩ := len14 hlen
          have hG := hI.1
          replace hI := hI.2
          have f0 := hide hI.1
          replace hI := hI.2
          have f1 := hide hI.1
          replace hI := hI.2
          have f2 := hide hI.1
          replace hI := hI.2
          have f3 := hide hI.1
          replace hI := hI.2
          have f4 := hide hI.1
          replace hI := hI.2
          have f5 := hide hI.1
          replace hI := hI.2
          have f6 := hide hI.1
          replace hI := hI.2
          have f7 := hide hI.1
          replace hI := hI.2
          have f8 := hide hI.1
          replace hI := hI.2
          have f9 := hide hI.1
          replace hI := hI.2
          have f10 := hide hI.1
          replace hI := hI.2
          have f11 := hide hI.1
          replace hI := hI.2
          have f12 := hide hI.1
          replace hI := hI.2
          have f13 := hide hI
          clear hI
          obtain rfl := f0.out (hall 0 (by decide))
          obtain rfl := f1.out (hall 1 (by decide))
          have g2 := f2.out (hall 2 (by decide))
          obtain rfl := f3.out (hall 3 (by decide))
          obtain rfl := f4.out (hall 4 (by decide))
          have g5 := f5.out (hall 5 (by decide))
          obtain rfl := f6.out (hall 6 (by decide))
          obtain rfl := f7.out (hall 7 (by decide))
          obtain rfl := f8.out (hall 8 (by decide))
          have g9 := f9.out (hall 9 (by decide))
          have g10 := f10.out (hall 10 (by decide))
          have g11 := f11.out (hall 11 (by decide))
          have g12 := f12.out (hall 12 (by decide))
          have g13 := f13.out (hall 13 (by decide))
          have hal := hide hall
          clear hall f0 f1 f2 f3 f4 f5 f6 f7 f8 f9 f10 f11 f12 f13
          try simp only [puts, Act.put, List.setIfInBounds_toArray, List.set_cons_zero, List.set_cons_succ]
          obtain ⟨-, b1, g1, d1, rfl, hB1, hO1, hb1V⟩ := g13
          have hq1 : PairsIn W.cell? (.slice (some ⟨g1, 0, none⟩) (qs.length + 1) d1) (qs ++ [((b : Int), (a : Int))]) := RecIn.at (RecIn.of_own hO1 (fun _ => rfl) (Nat.le_refl _))
          have hwB := below2 HT2.out.hb hG
          clear hG hal g2 g5 g9 g10 g11 g12 hO1 hb1V c0 c1 HPS HT2
          generalize W = V3 at *
          have e0 := hB1.cell 0 rfl
          have e1 := hB1.cell 1 rfl
          go_wp2_with fail
          refine (HCC.out _ _ hq1).mono ?_
          rintro e w31 ⟨cv9, rfl, -, hb31⟩
          rw [hs2]
          have hB2 := hB1.later hb31
          have hq2 := hq1.below hb31
          have hwC := below2 hwB hb31
          clear hB1 hq1 hwB hb31 e0 e1 HCC
          have e0 := hB2.cell 0 rfl
          have e1 := hB2.cell 1 rfl
          go_wp2_with fail
          refine (HVV.out _ _ hq2).mono ?_
          rintro e w32 ⟨rfl, hb32⟩
          have hB3 := hB2.later hb32
          have hq3 := hq2.below hb32
          have hwD := below2 hwC hb32
          clear hB2 hq2 hwC hb32 e0 e1 HVV
          have e0 := hB3.cell 0 rfl
          have e1 := hB3.cell 1 rfl
          go_wp2_with fail
          refine (HFF.out _ _ hq3).mono ?_
          rintro e w33 ⟨rfl, hb33⟩
          have hwE := below2 hwD hb33
          clear hB3 hq3 hwD hb33 e0 e1 HFF
          go_wp2_with fail
          go_ret
          exact ⟨rfl, hwE⟩
    · obtain rfl : k = ls.length := by omega
      have hOI := hO.ints
      have hkl : ((ls.take ls.length).map fun y => pkO y 8).length = ls.length := by rw [List.length_map, List.length_take, Nat.min_eq_left hk]
      generalize ((ls.take ls.length).map fun y => pkO y 8) = oth at *
      have hkI : (ls.length : Int) ≤ 9223372036854775807 := by omega
      have HOI := hide hOI
      clear hOI hO hbr
      generalize ls.length = k at *
      have c0 := HGW.out.bP.cell 0 rfl
      have c1 := HGW.out.bP.cell 1 rfl
      go_wp2_with fail
      refine (round_any _ qs _ oth _ _ HGW.out.hp HOI.out).mono ?_
      rintro e w20 ⟨rfl, hb20⟩
      rw [HRN.out]
      have HT := hide (HGW.out.later hb20)
      clear c0 c1 hb20 HGW
      go_wp2_with fail
      refine (HPA.out _).mono ?_
      rintro e w21 ⟨rfl, hw21⟩
      obtain rfl := hw21
      go_wp2_with fail
      refine (HPB.out _).mono ?_
      rintro e w22 ⟨rfl, hw22⟩
      obtain rfl := hw22
      have c0 := HT.out.bP.cell 0 rfl
      have c1 := HT.out.bP.cell 1 rfl
      go_wp2_with fail
      refine (before_any ⟨(N : Int), qs⟩ _ a b _ HT.out.hp).mono ?_
      rintro e w23 ⟨rfl, hb23⟩
      have hT := HT.out.later hb23
      clear c0 c1 hb23
      cases ht : befB ⟨(N : Int), qs⟩ a b
      · go_wp2_with fail
        go_ret
        exact ⟨rfl, hT.hb⟩
      · obtain ⟨hf2, hv2, hs2⟩ := HAG.out ht
        have HFF := hide (fun v W hp => formed_any ⟨(N : Int), qs ++ [((b : Int), (a : Int))]⟩ v W hp)
        have HVV := hide (fun v W hp => valid_any ⟨(N : Int), qs ++ [((b : Int), (a : Int))]⟩ v W hp)
        have HCC := hide (fun v W hp => cycle_any ⟨(N : Int), qs ++ [((b : Int), (a : Int))]⟩ v W hp)
        rw [hf2] at HFF
        rw [hv2] at HVV
        have HPS := hide hT.hp
        have HT2 := hide hT
        have c0 := hT.bP.cell 0 rfl
        have c1 := hT.bP.cell 1 rfl
        have hqm : qs.length ≤ 1000 := by omega
        clear ht hf2 hv2 hT HT
        go_upto_region 37 with (fail)
        generalize w23 = V at *
        refine wp_region_inv [some 139, some 140, some 141, some 142, some 143, some 144, some 145, some 146, some 147, some 148, some 149, some 150, some 20, none] (fun L vs W => match vs with | [x0, x1, x2, x3, x4, x5, x6, x7, x8, x9, x10, x11, x12, x13] => (Below V.heap.size V W) ∧ (L 0 = true → x0 = .pointer (some ⟨P, 0, none⟩)) ∧ (L 1 = true → x1 = .int .i64 (N : Nat)) ∧ (L 2 = true → (L 5 = false → ∃ b0 : Nat, x2 = .slice (some ⟨b0, 0, none⟩) 0 0 ∧ OwnR W V.heap.size 46 2 (.slice (some ⟨b0, 0, none⟩) 0 0) [])) ∧ (L 3 = true → x3 = .pointer (some ⟨P, 1, none⟩)) ∧ (L 4 = true → x4 = .slice pa qs.length pc) ∧ (L 5 = true → (L 10 = false → ∃ va vc, x5 = .slice va qs.length vc ∧ OwnR W V.heap.size 46 2 (.slice va qs.length vc) (List.map pairC qs))) ∧ (L 6 = true → x6 = .int .i64 ((b : Nat) : Int)) ∧ (L 7 = true → x7 = .int .i64 ((a : Nat) : Int)) ∧ (L 8 = true → x8 = .agg #[.int .i64 ((b : Nat) : Int), .int .i64 ((a : Nat) : Int)]) ∧ (L 9 = true → (L 10 = false → ∃ b0 : Nat, x9 = .slice (some ⟨b0, 0, none⟩) 1 1 ∧ Blk W b0 (pairC (((b : Nat) : Int), ((a : Nat) : Int))) 46)) ∧ (L 10 = true → ∃ g c, x10 = .slice (some ⟨g, 0, none⟩) (qs.length + 1) c ∧ OwnR W V.heap.size 46 2 (.slice (some ⟨g, 0, none⟩) (qs.length + 1) c) (List.map pairC (qs ++ [(((b : Nat) : Int), ((a : Nat) : Int))]))) ∧ (L 11 = true → L 10 = true ∧ ∃ g c, x10 = .slice (some ⟨g, 0, none⟩) (qs.length + 1) c ∧ x11 = .agg #[.int .i64 (N : Nat), .slice (some ⟨g, 0, none⟩) (qs.length + 1) c]) ∧ (L 12 = true → (L 13 = false → ∃ b0 : Nat, V.heap.size ≤ b0 ∧ x12 = .pointer (some ⟨b0, 0, none⟩) ∧ Blk W b0 [.int .i64 0, .slice none 0 0] 25)) ∧ (L 13 = true → (L 10 = true ∧ L 12 = true) ∧ NewO V (N : Nat) (qs.length + 1) (qs ++ [(((b : Nat) : Int), ((a : Nat) : Int))]) x12 W) | _ => False) [_, _, _, _, _, _, _, _, _, _, _, _, _, undef] (by kernel_rfl) (by kernel_rfl) rfl (by simp only [puts, Act.put, List.setIfInBounds_toArray, List.set_cons_zero, List.set_cons_succ] <;> rfl) ?_ ?_ ?_
        · exact ⟨(Below.refl _ _).drew, (fun h => by cases h), (fun h => by cases h), (fun h => by cases h), (fun h => by cases h), (fun h => by cases h), (fun h => by cases h), (fun h => by cases h), (fun h => by cases h), (fun h => by cases h), (fun h => by cases h), (fun h => by cases h), (fun h => by cases h), (fun h => by cases h), (fun h => by cases h)⟩
        · refine ⟨?_, ?_, ?_, ?_, ?_, ?_, ?_, ?_, ?_, ?_, ?_, ?_, ?_, ?_, trivial⟩
          · intro L vs W hlen hL hD hI K hK
            obtain ⟨x0, x1, x2, x3, x4, x5, x6, x7, x8, x9, x10, x11, x12, x13, rfl⟩ := len14 hlen
            have hG := hI.1
            replace hI := hI.2
            have f0 := hide hI.1
            replace hI := hI.2
            have f1 := hide hI.1
            replace hI := hI.2
            have f2 := hide hI.1
            replace hI := hI.2
            have f3 := hide hI.1
            replace hI := hI.2
            have f4 := hide hI.1
            replace hI := hI.2
            have f5 := hide hI.1
            replace hI := hI.2
            have f6 := hide hI.1
            replace hI := hI.2
            have f7 := hide hI.1
            replace hI := hI.2
            have f8 := hide hI.1
            replace hI := hI.2
            have f9 := hide hI.1
            replace hI := hI.2
            have f10 := hide hI.1
            replace hI := hI.2
            have f11 := hide hI.1
            replace hI := hI.2
            have f12 := hide hI.1
            replace hI := hI.2
            have f13 := hide hI
            clear hI
            have c0 := keep hG c0
            have c1 := keep hG c1
            try simp only [puts, Act.put, List.setIfInBounds_toArray, List.set_cons_zero, List.set_cons_succ]
            try go_simp
            exact hK.out _ _ _ (by simp only [puts, Act.put, List.setIfInBounds_toArray, List.set_cons_zero, List.set_cons_succ] <;> rfl) ⟨hG, (fun _ => rfl), (fun h => f1.out h), (fun h => f2.out h), (fun h => f3.out h), (fun h => f4.out h), (fun h => f5.out h), (fun h => f6.out h), (fun h => f7.out h), (fun h => f8.out h), (fun h => f9.out h), (fun h => f10.out h), (fun h => f11.out h), (fun h => f12.out h), (fun h => f13.out h)⟩
          · intro L vs W hlen hL hD hI K hK
            obtain ⟨x0, x1, x2, x3, x4, x5, x6, x7, x8, x9, x10, x11, x12, x13, rfl⟩ := len14 hlen
            have hG := hI.1
            replace hI := hI.2
            have f0 := hide hI.1
            replace hI := hI.2
            have f1 := hide hI.1
            replace hI := hI.2
            have f2 := hide hI.1
            replace hI := hI.2
            have f3 := hide hI.1
            replace hI := hI.2
            have f4 := hide hI.1
            replace hI := hI.2
            have f5 := hide hI.1
            replace hI := hI.2
            have f6 := hide hI.1
            replace hI := hI.2
            have f7 := hide hI.1
            replace hI := hI.2
            have f8 := hide hI.1
            replace hI := hI.2
            have f9 := hide hI.1
            replace hI := hI.2
            have f10 := hide hI.1
            replace hI := hI.2
            have f11 := hide hI.1
            replace hI := hI.2
            have f12 := hide hI.1
            replace hI := hI.2
            have f13 := hide hI
            clear hI
            have c0 := keep hG c0
            have c1 := keep hG c1
            obtain rfl := f0.out (hD.on 0 (by kernel_rfl))
            try simp only [puts, Act.put, List.setIfInBounds_toArray, List.set_cons_zero, List.set_cons_succ]
            try go_simp
            exact hK.out _ _ _ (by simp only [puts, Act.put, List.setIfInBounds_toArray, List.set_cons_zero, List.set_cons_succ] <;> rfl) ⟨hG, (fun h => f0.out h), (fun _ => rfl), (fun h => f2.out h), (fun h => f3.out h), (fun h => f4.out h), (fun h => f5.out h), (fun h => f6.out h), (fun h => f7.out h), (fun h => f8.out h), (fun h => f9.out h), (fun h => f10.out h), (fun h => f11.out h), (fun h => f12.out h), (fun h => f13.out h)⟩
          · intro L vs W hlen hL hD hI K hK
            obtain ⟨x0, x1, x2, x3, x4, x5, x6, x7, x8, x9, x10, x11, x12, x13, rfl⟩ := len14 hlen
            have hG := hI.1
            replace hI := hI.2
            have f0 := hide hI.1
            replace hI := hI.2
            have f1 := hide hI.1
            replace hI := hI.2
            have f2 := hide hI.1
            replace hI := hI.2
            have f3 := hide hI.1
            replace hI := hI.2
            have f4 := hide hI.1
            replace hI := hI.2
            have f5 := hide hI.1
            replace hI := hI.2
            have f6 := hide hI.1
            replace hI := hI.2
            have f7 := hide hI.1
            replace hI := hI.2
            have f8 := hide hI.1
            replace hI := hI.2
            have f9 := hide hI.1
            replace hI := hI.2
            have f10 := hide hI.1
            replace hI := hI.2
            have f11 := hide hI.1
            replace hI := hI.2
            have f12 := hide hI.1
            replace hI := hI.2
            have f13 := hide hI
            clear hI
            have c0 := keep hG c0
            have c1 := keep hG c1
            try simp only [puts, Act.put, List.setIfInBounds_toArray, List.set_cons_zero, List.set_cons_succ]
            try go_simp
            generalize hW' : World.alloc W _ = W'
            have hb : Below W.heap.size W W' := by rw [← hW']; exact bal W _
            exact hK.out _ _ _ (by simp only [puts, Act.put, List.setIfInBounds_toArray, List.set_cons_zero, List.set_cons_succ] <;> rfl) ⟨below2 hG hb, (fun h => f0.out h), (fun h => f1.out h), (fun _ => fun _ => ⟨W.heap.size, rfl, by rw [← hW']; exact lit_recsK W _ 2 hG.size⟩), (fun h => f3.out h), (fun h => f4.out h), (fun h => (fun h => fun h8 => let ⟨va, vc, e, o⟩ := h h8; ⟨va, vc, e, OwnR.later' o hb⟩) (f5.out h)), (fun h => f6.out h), (fun h => f7.out h), (fun h => f8.out h), (fun h => (fun h => fun h8 => let ⟨b0, e, o⟩ := h h8; ⟨b0, e, o.later hb⟩) (f9.out h)), (fun h => (fun h => let ⟨g, c, e, o⟩ := h; ⟨g, c, e, OwnR.later' o hb⟩) (f10.out h)), (fun h => f11.out h), (fun h => (fun h => fun h8 => let ⟨b0, h0, e, k⟩ := h h8; ⟨b0, h0, e, k.later hb⟩) (f12.out h)), (fun h => (fun h => ⟨h.1, let ⟨b, g, c, e, k, o, q⟩ := h.2; ⟨b, g, c, e, k.later hb, OwnR.later' o hb, q⟩⟩) (f13.out h))⟩
          · intro L vs W hlen hL hD hI K hK
            obtain ⟨x0, x1, x2, x3, x4, x5, x6, x7, x8, x9, x10, x11, x12, x13, rfl⟩ := len14 hlen
            have hG := hI.1
            replace hI := hI.2
            have f0 := hide hI.1
            replace hI := hI.2
            have f1 := hide hI.1
            replace hI := hI.2
            have f2 := hide hI.1
            replace hI := hI.2
            have f3 := hide hI.1
            replace hI := hI.2
            have f4 := hide hI.1
            replace hI := hI.2
            have f5 := hide hI.1
            replace hI := hI.2
            have f6 := hide hI.1
            replace hI := hI.2
            have f7 := hide hI.1
            replace hI := hI.2
            have f8 := hide hI.1
            replace hI := hI.2
            have f9 := hide hI.1
            replace hI := hI.2
            have f10 := hide hI.1
            replace hI := hI.2
            have f11 := hide hI.1
            replace hI := hI.2
            have f12 := hide hI.1
            replace hI := hI.2
            have f13 := hide hI
            clear hI
            have c0 := keep hG c0
            have c1 := keep hG c1
            try simp only [puts, Act.put, List.setIfInBounds_toArray, List.set_cons_zero, List.set_cons_succ]
            try go_simp
            exact hK.out _ _ _ (by simp only [puts, Act.put, List.setIfInBounds_toArray, List.set_cons_zero, List.set_cons_succ] <;> rfl) ⟨hG, (fun h => f0.out h), (fun h => f1.out h), (fun h => f2.out h), (fun _ => rfl), (fun h => f4.out h), (fun h => f5.out h), (fun h => f6.out h), (fun h => f7.out h), (fun h => f8.out h), (fun h => f9.out h), (fun h => f10.out h), (fun h => f11.out h), (fun h => f12.out h), (fun h => f13.out h)⟩
          · intro L vs W hlen hL hD hI K hK
            obtain ⟨x0, x1, x2, x3, x4, x5, x6, x7, x8, x9, x10, x11, x12, x13, rfl⟩ := len14 hlen
            have hG := hI.1
            replace hI := hI.2
            have f0 := hide hI.1
            replace hI := hI.2
            have f1 := hide hI.1
            replace hI := hI.2
            have f2 := hide hI.1
            replace hI := hI.2
            have f3 := hide hI.1
            replace hI := hI.2
            have f4 := hide hI.1
            replace hI := hI.2
            have f5 := hide hI.1
            replace hI := hI.2
            have f6 := hide hI.1
            replace hI := hI.2
            have f7 := hide hI.1
            replace hI := hI.2
            have f8 := hide hI.1
            replace hI := hI.2
            have f9 := hide hI.1
            replace hI := hI.2
            have f10 := hide hI.1
            replace hI := hI.2
            have f11 := hide hI.1
            replace hI := hI.2
            have f12 := hide hI.1
            replace hI := hI.2
            have f13 := hide hI
            clear hI
            have c0 := keep hG c0
            have c1 := keep hG c1
            obtain rfl := f3.out (hD.on 3 (by kernel_rfl))
            try simp only [puts, Act.put, List.setIfInBounds_toArray, List.set_cons_zero, List.set_cons_succ]
            try go_simp
            exact hK.out _ _ _ (by simp only [puts, Act.put, List.setIfInBounds_toArray, List.set_cons_zero, List.set_cons_succ] <;> rfl) ⟨hG, (fun h => f0.out h), (fun h => f1.out h), (fun h => f2.out h), (fun h => f3.out h), (fun _ => rfl), (fun h => f5.out h), (fun h => f6.out h), (fun h => f7.out h), (fun h => f8.out h), (fun h => f9.out h), (fun h => f10.out h), (fun h => f11.out h), (fun h => f12.out h), (fun h => f13.out h)⟩
          · intro L vs W hlen hL hD hI K hK
            obtain ⟨x0, x1, x2, x3, x4, x5, x6, x7, x8, x9, x10, x11, x12, x13, rfl⟩ := len14 hlen
            have hG := hI.1
            replace hI := hI.2
            have f0 := hide hI.1
            replace hI := hI.2
            have f1 := hide hI.1
            replace hI := hI.2
            have f2 := hide hI.1
            replace hI := hI.2
            have f3 := hide hI.1
            replace hI := hI.2
            have f4 := hide hI.1
            replace hI := hI.2
            have f5 := hide hI.1
            replace hI := hI.2
            have f6 := hide hI.1
            replace hI := hI.2
            have f7 := hide hI.1
            replace hI := hI.2
            have f8 := hide hI.1
            replace hI := hI.2
            have f9 := hide hI.1
            replace hI := hI.2
            have f10 := hide hI.1
            replace hI := hI.2
            have f11 := hide hI.1
            replace hI := hI.2
            have f12 := hide hI.1
            replace hI := hI.2
            have f13 := hide hI
            clear hI
            have c0 := keep hG c0
            have c1 := keep hG c1
            have g2 := f2.out (hD.on 2 (by kernel_rfl))
            obtain rfl := f4.out (hD.on 4 (by kernel_rfl))
            try simp only [puts, Act.put, List.setIfInBounds_toArray, List.set_cons_zero, List.set_cons_succ]
            obtain ⟨b0, rfl, hO0⟩ := g2 hL
            refine step_copy rfl _ _ rfl V.heap.size b0 rfl hO0 pa qs.length pc (qs) rfl (RecIn.below hG HPS.out) hqm hG.size ?_
            intro va vc W' hO' hb
            exact hK.out _ _ _ (by simp only [puts, Act.put, List.setIfInBounds_toArray, List.set_cons_zero, List.set_cons_succ] <;> rfl) ⟨below2 hG hb, (fun h => f0.out h), (fun h => f1.out h), (fun h => (fun _ h8 => absurd h8 (by simp)) (f2.out h)), (fun h => f3.out h), (fun h => f4.out h), (fun _ => fun _ => ⟨va, vc, rfl, hO'⟩), (fun h => f6.out h), (fun h => f7.out h), (fun h => f8.out h), (fun h => (fun h => fun h8 => let ⟨b0, e, o⟩ := h h8; ⟨b0, e, o.later hb⟩) (f9.out h)), (fun h => (fun h => let ⟨g, c, e, o⟩ := h; ⟨g, c, e, OwnR.later' o hb⟩) (f10.out h)), (fun h => f11.out h), (fun h => (fun h => fun h8 => let ⟨b0, h0, e, k⟩ := h h8; ⟨b0, h0, e, k.later hb⟩) (f12.out h)), (fun h => (fun h => ⟨h.1, let ⟨b, g, c, e, k, o, q⟩ := h.2; ⟨b, g, c, e, k.later hb, OwnR.later' o hb, q⟩⟩) (f13.out h))⟩
          · intro L vs W hlen hL hD hI K hK
            obtain ⟨x0, x1, x2, x3, x4, x5, x6, x7, x8, x9, x10, x11, x12, x13, rfl⟩ := len14 hlen
            have hG := hI.1
            replace hI := hI.2
            have f0 := hide hI.1
            replace hI := hI.2
            have f1 := hide hI.1
            replace hI := hI.2
            have f2 := hide hI.1
            replace hI := hI.2
            have f3 := hide hI.1
            replace hI := hI.2
            have f4 := hide hI.1
            replace hI := hI.2
            have f5 := hide hI.1
            replace hI := hI.2
            have f6 := hide hI.1
            replace hI := hI.2
            have f7 := hide hI.1
            replace hI := hI.2
            have f8 := hide hI.1
            replace hI := hI.2
            have f9 := hide hI.1
            replace hI := hI.2
            have f10 := hide hI.1
            replace hI := hI.2
            have f11 := hide hI.1
            replace hI := hI.2
            have f12 := hide hI.1
            replace hI := hI.2
            have f13 := hide hI
            clear hI
            have c0 := keep hG c0
            have c1 := keep hG c1
            try simp only [puts, Act.put, List.setIfInBounds_toArray, List.set_cons_zero, List.set_cons_succ]
            try go_simp
            exact hK.out _ _ _ (by simp only [puts, Act.put, List.setIfInBounds_toArray, List.set_cons_zero, List.set_cons_succ] <;> rfl) ⟨hG, (fun h => f0.out h), (fun h => f1.out h), (fun h => f2.out h), (fun h => f3.out h), (fun h => f4.out h), (fun h => f5.out h), (fun _ => rfl), (fun h => f7.out h), (fun h => f8.out h), (fun h => f9.out h), (fun h => f10.out h), (fun h => f11.out h), (fun h => f12.out h), (fun h => f13.out h)⟩
          · intro L vs W hlen hL hD hI K hK
            obtain ⟨x0, x1, x2, x3, x4, x5, x6, x7, x8, x9, x10, x11, x12, x13, rfl⟩ := len14 hlen
            have hG := hI.1
            replace hI := hI.2
            have f0 := hide hI.1
            replace hI := hI.2
            have f1 := hide hI.1
            replace hI := hI.2
            have f2 := hide hI.1
            replace hI := hI.2
            have f3 := hide hI.1
            replace hI := hI.2
            have f4 := hide hI.1
            replace hI := hI.2
            have f5 := hide hI.1
            replace hI := hI.2
            have f6 := hide hI.1
            replace hI := hI.2
            have f7 := hide hI.1
            replace hI := hI.2
            have f8 := hide hI.1
            replace hI := hI.2
            have f9 := hide hI.1
            replace hI := hI.2
            have f10 := hide hI.1
            replace hI := hI.2
            have f11 := hide hI.1
            replace hI := hI.2
            have f12 := hide hI.1
            replace hI := hI.2
            have f13 := hide hI
            clear hI
            have c0 := keep hG c0
            have c1 := keep hG c1
            try simp only [puts, Act.put, List.setIfInBounds_toArray, List.set_cons_zero, List.set_cons_succ]
            try go_simp
            exact hK.out _ _ _ (by simp only [puts, Act.put, List.setIfInBounds_toArray, List.set_cons_zero, List.set_cons_succ] <;> rfl) ⟨hG, (fun h => f0.out h), (fun h => f1.out h), (fun h => f2.out h), (fun h => f3.out h), (fun h => f4.out h), (fun h => f5.out h), (fun h => f6.out h), (fun _ => rfl), (fun h => f8.out h), (fun h => f9.out h), (fun h => f10.out h), (fun h => f11.out h), (fun h => f12.out h), (fun h => f13.out h)⟩
          · intro L vs W hlen hL hD hI K hK
            obtain ⟨x0, x1, x2, x3, x4, x5, x6, x7, x8, x9, x10, x11, x12, x13, rfl⟩ := len14 hlen
            have hG := hI.1
            replace hI := hI.2
            have f0 := hide hI.1
            replace hI := hI.2
            have f1 := hide hI.1
            replace hI := hI.2
            have f2 := hide hI.1
            replace hI := hI.2
            have f3 := hide hI.1
            replace hI := hI.2
            have f4 := hide hI.1
            replace hI := hI.2
            have f5 := hide hI.1
            replace hI := hI.2
            have f6 := hide hI.1
            replace hI := hI.2
            have f7 := hide hI.1
            replace hI := hI.2
            have f8 := hide hI.1
            replace hI := hI.2
            have f9 := hide hI.1
            replace hI := hI.2
            have f10 := hide hI.1
            replace hI := hI.2
            have f11 := hide hI.1
            replace hI := hI.2
            have f12 := hide hI.1
            replace hI := hI.2
            have f13 := hide hI
            clear hI
            have c0 := keep hG c0
            have c1 := keep hG c1
            obtain rfl := f6.out (hD.on 6 (by kernel_rfl))
            obtain rfl := f7.out (hD.on 7 (by kernel_rfl))
            try simp only [puts, Act.put, List.setIfInBounds_toArray, List.set_cons_zero, List.set_cons_succ]
            try go_simp
            exact hK.out _ _ _ (by simp only [puts, Act.put, List.setIfInBounds_toArray, List.set_cons_zero, List.set_cons_succ] <;> rfl) ⟨hG, (fun h => f0.out h), (fun h => f1.out h), (fun h => f2.out h), (fun h => f3.out h), (fun h => f4.out h), (fun h => f5.out h), (fun h => f6.out h), (fun h => f7.out h), (fun _ => rfl), (fun h => f9.out h), (fun h => f10.out h), (fun h => f11.out h), (fun h => f12.out h), (fun h => f13.out h)⟩
          · intro L vs W hlen hL hD hI K hK
            obtain ⟨x0, x1, x2, x3, x4, x5, x6, x7, x8, x9, x10, x11, x12, x13, rfl⟩ := len14 hlen
            have hG := hI.1
            replace hI := hI.2
            have f0 := hide hI.1
            replace hI := hI.2
            have f1 := hide hI.1
            replace hI := hI.2
            have f2 := hide hI.1
            replace hI := hI.2
            have f3 := hide hI.1
            replace hI := hI.2
            have f4 := hide hI.1
            replace hI := hI.2
            have f5 := hide hI.1
            replace hI := hI.2
            have f6 := hide hI.1
            replace hI := hI.2
            have f7 := hide hI.1
            replace hI := hI.2
            have f8 := hide hI.1
            replace hI := hI.2
            have f9 := hide hI.1
            replace hI := hI.2
            have f10 := hide hI.1
            replace hI := hI.2
            have f11 := hide hI.1
            replace hI := hI.2
            have f12 := hide hI.1
            replace hI := hI.2
            have f13 := hide hI
            clear hI
            have c0 := keep hG c0
            have c1 := keep hG c1
            obtain rfl := f8.out (hD.on 8 (by kernel_rfl))
            try simp only [puts, Act.put, List.setIfInBounds_toArray, List.set_cons_zero, List.set_cons_succ]
            try go_simp
            generalize hW' : World.alloc W _ = W'
            have hb : Below W.heap.size W W' := by rw [← hW']; exact bal W _
            exact hK.out _ _ _ (by simp only [puts, Act.put, List.setIfInBounds_toArray, List.set_cons_zero, List.set_cons_succ] <;> rfl) ⟨below2 hG hb, (fun h => f0.out h), (fun h => f1.out h), (fun h => (fun h => fun h5 => let ⟨b0, e, o⟩ := h h5; ⟨b0, e, OwnR.later' o hb⟩) (f2.out h)), (fun h => f3.out h), (fun h => f4.out h), (fun h => (fun h => fun h8 => let ⟨va, vc, e, o⟩ := h h8; ⟨va, vc, e, OwnR.later' o hb⟩) (f5.out h)), (fun h => f6.out h), (fun h => f7.out h), (fun h => f8.out h), (fun _ => fun _ => ⟨W.heap.size, rfl, by rw [← hW']; exact Blk.newA W _ rfl⟩), (fun h => (fun h => let ⟨g, c, e, o⟩ := h; ⟨g, c, e, OwnR.later' o hb⟩) (f10.out h)), (fun h => f11.out h), (fun h => (fun h => fun h8 => let ⟨b0, h0, e, k⟩ := h h8; ⟨b0, h0, e, k.later hb⟩) (f12.out h)), (fun h => (fun h => ⟨h.1, let ⟨b, g, c, e, k, o, q⟩ := h.2; ⟨b, g, c, e, k.later hb, OwnR.later' o hb, q⟩⟩) (f13.out h))⟩
          · intro L vs W hlen hL hD hI K hK
            obtain ⟨x0, x1, x2, x3, x4, x5, x6, x7, x8, x9, x10, x11, x12, x13, rfl⟩ := len14 hlen
            have hG := hI.1
            replace hI := hI.2
            have f0 := hide hI.1
            replace hI := hI.2
            have f1 := hide hI.1
            replace hI := hI.2
            have f2 := hide hI.1
            replace hI := hI.2
            have f3 := hide hI.1
            replace hI := hI.2
            have f4 := hide hI.1
            replace hI := hI.2
            have f5 := hide hI.1
            replace hI := hI.2
            have f6 := hide hI.1
            replace hI := hI.2
            have f7 := hide hI.1
            replace hI := hI.2
            have f8 := hide hI.1
            replace hI := hI.2
            have f9 := hide hI.1
            replace hI := hI.2
            have f10 := hide hI.1
            replace hI := hI.2
            have f11 := hide hI.1
            replace hI := hI.2
            have f12 := hide hI.1
            replace hI := hI.2
            have f13 := hide hI
            clear hI
            have c0 := keep hG c0
            have c1 := keep hG c1
            have g5 := f5.out (hD.on 5 (by kernel_rfl))
            have g9 := f9.out (hD.on 9 (by kernel_rfl))
            try simp only [puts, Act.put, List.setIfInBounds_toArray, List.set_cons_zero, List.set_cons_succ]
            obtain ⟨va, vc, rfl, hO5⟩ := g5 hL
            obtain ⟨b0, rfl, hB0⟩ := g9 hL
            refine step_one' rfl _ _ rfl V.heap.size qs.length va vc (qs) (((b : Nat) : Int), ((a : Nat) : Int)) rfl hO5 b0 rfl hB0 hqm hG.size ?_
            intro g c W' hO' hE'
            have hb := effE_far hG hE'
            exact hK.out _ _ _ (by simp only [puts, Act.put, List.setIfInBounds_toArray, List.set_cons_zero, List.set_cons_succ] <;> rfl) ⟨hG.trans hb, (fun h => f0.out h), (fun h => f1.out h), (fun h => (fun _ h8 => absurd ((hD.on 5 (by kernel_rfl)).symm.trans h8) (by decide)) (f2.out h)), (fun h => f3.out h), (fun h => f4.out h), (fun h => (fun _ h8 => absurd h8 (by simp)) (f5.out h)), (fun h => f6.out h), (fun h => f7.out h), (fun h => f8.out h), (fun h => (fun _ h8 => absurd h8 (by simp)) (f9.out h)), (fun _ => ⟨g, c, rfl, hO'⟩), (fun h => (fun h => absurd (h.1.symm.trans hL) (by decide)) (f11.out h)), (fun h => (fun h h13 => let ⟨b0, h0, e, k⟩ := h h13; ⟨b0, h0, e, hE'.blk k (by decide)⟩) (f12.out h)), (fun h => (fun h => absurd (h.1.1.symm.trans hL) (by decide)) (f13.out h))⟩
          · intro L vs W hlen hL hD hI K hK
            obtain ⟨x0, x1, x2, x3, x4, x5, x6, x7, x8, x9, x10, x11, x12, x13, rfl⟩ := len14 hlen
            have hG := hI.1
            replace hI := hI.2
            have f0 := hide hI.1
            replace hI := hI.2
            have f1 := hide hI.1
            replace hI := hI.2
            have f2 := hide hI.1
            replace hI := hI.2
            have f3 := hide hI.1
            replace hI := hI.2
            have f4 := hide hI.1
            replace hI := hI.2
            have f5 := hide hI.1
            replace hI := hI.2
            have f6 := hide hI.1
            replace hI := hI.2
            have f7 := hide hI.1
            replace hI := hI.2
            have f8 := hide hI.1
            replace hI := hI.2
            have f9 := hide hI.1
            replace hI := hI.2
            have f10 := hide hI.1
            replace hI := hI.2
            have f11 := hide hI.1
            replace hI := hI.2
            have f12 := hide hI.1
            replace hI := hI.2
            have f13 := hide hI
            clear hI
            have c0 := keep hG c0
            have c1 := keep hG c1
            obtain rfl := f1.out (hD.on 1 (by kernel_rfl))
            have g10 := f10.out (hD.on 10 (by kernel_rfl))
            try simp only [puts, Act.put, List.setIfInBounds_toArray, List.set_cons_zero, List.set_cons_succ]
            obtain ⟨g, c, rfl, hO'⟩ := g10
            go_simp
            exact hK.out _ _ _ (by simp only [puts, Act.put, List.setIfInBounds_toArray, List.set_cons_zero, List.set_cons_succ] <;> rfl) ⟨hG, (fun h => f0.out h), (fun h => f1.out h), (fun h => f2.out h), (fun h => f3.out h), (fun h => f4.out h), (fun h => f5.out h), (fun h => f6.out h), (fun h => f7.out h), (fun h => f8.out h), (fun h => f9.out h), (fun h => f10.out h), (fun _ => ⟨hD.on 10 (by kernel_rfl), g, c, rfl, rfl⟩), (fun h => f12.out h), (fun h => f13.out h)⟩
          · intro L vs W hlen hL hD hI K hK
            obtain ⟨x0, x1, x2, x3, x4, x5, x6, x7, x8, x9, x10, x11, x12, x13, rfl⟩ := len14 hlen
            have hG := hI.1
            replace hI := hI.2
            have f0 := hide hI.1
            replace hI := hI.2
            have f1 := hide hI.1
            replace hI := hI.2
            have f2 := hide hI.1
            replace hI := hI.2
            have f3 := hide hI.1
            replace hI := hI.2
            have f4 := hide hI.1
            replace hI := hI.2
            have f5 := hide hI.1
            replace hI := hI.2
            have f6 := hide hI.1
            replace hI := hI.2
            have f7 := hide hI.1
            replace hI := hI.2
            have f8 := hide hI.1
            replace hI := hI.2
            have f9 := hide hI.1
            replace hI := hI.2
            have f10 := hide hI.1
            replace hI := hI.2
            have f11 := hide hI.1
            replace hI := hI.2
            have f12 := hide hI.1
            replace hI := hI.2
            have f13 := hide hI
            clear hI
            have c0 := keep hG c0
            have c1 := keep hG c1
            try simp only [puts, Act.put, List.setIfInBounds_toArray, List.set_cons_zero, List.set_cons_succ]
            try go_simp
            generalize hW' : World.alloc W _ = W'
            have hb : Below W.heap.size W W' := by rw [← hW']; exact bal W _
            exact hK.out _ _ _ (by simp only [puts, Act.put, List.setIfInBounds_toArray, List.set_cons_zero, List.set_cons_succ] <;> rfl) ⟨below2 hG hb, (fun h => f0.out h), (fun h => f1.out h), (fun h => (fun h => fun h5 => let ⟨b0, e, o⟩ := h h5; ⟨b0, e, OwnR.later' o hb⟩) (f2.out h)), (fun h => f3.out h), (fun h => f4.out h), (fun h => (fun h => fun h8 => let ⟨va, vc, e, o⟩ := h h8; ⟨va, vc, e, OwnR.later' o hb⟩) (f5.out h)), (fun h => f6.out h), (fun h => f7.out h), (fun h => f8.out h), (fun h => (fun h => fun h8 => let ⟨b0, e, o⟩ := h h8; ⟨b0, e, o.later hb⟩) (f9.out h)), (fun h => (fun h => let ⟨g, c, e, o⟩ := h; ⟨g, c, e, OwnR.later' o hb⟩) (f10.out h)), (fun h => f11.out h), (fun _ => fun _ => ⟨W.heap.size, hG.size, rfl, by rw [← hW']; exact Blk.newA W _ rfl⟩), (fun h => (fun h => absurd (h.1.2.symm.trans hL) (by decide)) (f13.out h))⟩
          · intro L vs W hlen hL hD hI K hK
            obtain ⟨x0, x1, x2, x3, x4, x5, x6, x7, x8, x9, x10, x11, x12, x13, rfl⟩ := len14 hlen
            have hG := hI.1
            replace hI := hI.2
            have f0 := hide hI.1
            replace hI := hI.2
            have f1 := hide hI.1
            replace hI := hI.2
            have f2 := hide hI.1
            replace hI := hI.2
            have f3 := hide hI.1
            replace hI := hI.2
            have f4 := hide hI.1
            replace hI := hI.2
            have f5 := hide hI.1
            replace hI := hI.2
            have f6 := hide hI.1
            replace hI := hI.2
            have f7 := hide hI.1
            replace hI := hI.2
            have f8 := hide hI.1
            replace hI := hI.2
            have f9 := hide hI.1
            replace hI := hI.2
            have f10 := hide hI.1
            replace hI := hI.2
            have f11 := hide hI.1
            replace hI := hI.2
            have f12 := hide hI.1
            replace hI := hI.2
            have f13 := hide hI
            clear hI
            have c0 := keep hG c0
            have c1 := keep hG c1
            have g10 := f10.out (hD.on 10 (by kernel_rfl))
            have g11 := f11.out (hD.on 11 (by kernel_rfl))
            have g12 := f12.out (hD.on 12 (by kernel_rfl))
            try simp only [puts, Act.put, List.setIfInBounds_toArray, List.set_cons_zero, List.set_cons_succ]
            obtain ⟨g, c, rfl, hO10⟩ := g10
            obtain ⟨-, g1, c1, e1, rfl⟩ := g11
            cases e1
            obtain ⟨b0, h0, rfl, hB0⟩ := g12 hL
            have z0 := hB0.cell 0 rfl
            have z1 := hB0.cell 1 rfl
            have zf0 := hB0.frozen 0
            have zf1 := hB0.frozen 1
            go_simp
            have hb := ((Below.refl (V.heap.size) W).setCell (p := ⟨b0, 0, none⟩) h0 (.int .i64 (N : Nat))).setCell (p := ⟨b0, 1, none⟩) h0 (.slice (some ⟨g, 0, none⟩) (qs.length + 1) c)
            exact hK.out _ undef _ (by simp only [puts, Act.put, List.setIfInBounds_toArray, List.set_cons_zero, List.set_cons_succ] <;> rfl) ⟨hG.trans hb, (fun h => f0.out h), (fun h => f1.out h), (fun h => (fun _ h8 => absurd ((hD.on 5 (by kernel_rfl)).symm.trans h8) (by decide)) (f2.out h)), (fun h => f3.out h), (fun h => f4.out h), (fun h => (fun _ h8 => absurd ((hD.on 10 (by kernel_rfl)).symm.trans h8) (by decide)) (f5.out h)), (fun h => f6.out h), (fun h => f7.out h), (fun h => f8.out h), (fun h => (fun _ h8 => absurd ((hD.on 10 (by kernel_rfl)).symm.trans h8) (by decide)) (f9.out h)), (fun h => (fun h => let ⟨g2, c2, e, o⟩ := h; ⟨g2, c2, e, (o.setO hB0 (by decide) (j := 0) _).setO (hB0.set 0 _) (by decide) (j := 1) _⟩) (f10.out h)), (fun h => f11.out h), (fun h => (fun _ h8 => absurd h8 (by simp)) (f12.out h)), (fun _ => ⟨⟨hD.on 10 (by kernel_rfl), hD.on 12 (by kernel_rfl)⟩, b0, g, c, rfl, (hB0.set 0 _).set 1 _, (hO10.setO hB0 (by decide) (j := 0) _).setO (hB0.set 0 _) (by decide) (j := 1) _, h0⟩)⟩
        intro L vs W hlen hall hI
        obtain ⟨x0, x1, x2, x3, x4, x5, x6, x7, x8, x9, x10, x11, x12, x13, rfl⟩ := len14 hlen
        have hG := hI.1
        replace hI := hI.2
        have f0 := hide hI.1
        replace hI := hI.2
        have f1 := hide hI.1
        replace hI := hI.2
        have f2 := hide hI.1
        replace hI := hI.2
        have f3 := hide hI.1
        replace hI := hI.2
        have f4 := hide hI.1
        replace hI := hI.2
        have f5 := hide hI.1
        replace hI := hI.2
        have f6 := hide hI.1
        replace hI := hI.2
        have f7 := hide hI.1
        replace hI := hI.2
        have f8 := hide hI.1
        replace hI := hI.2
        have f9 := hide hI.1
        replace hI := hI.2
        have f10 := hide hI.1
        replace hI := hI.2
        have f11 := hide hI.1
        replace hI := hI.2
        have f12 := hide hI.1
        replace hI := hI.2
        have f13 := hide hI
        clear hI
        obtain rfl := f0.out (hall 0 (by decide))
        obtain rfl := f1.out (hall 1 (by decide))
        have g2 := f2.out (hall 2 (by decide))
        obtain rfl := f3.out (hall 3 (by decide))
        obtain rfl := f4.out (hall 4 (by decide))
        have g5 := f5.out (hall 5 (by decide))
        obtain rfl := f6.out (hall 6 (by decide))
        obtain rfl := f7.out (hall 7 (by decide))
        obtain rfl := f8.out (hall 8 (by decide))
        have g9 := f9.out (hall 9 (by decide))
        have g10 := f10.out (hall 10 (by decide))
        have g11 := f11.out (hall 11 (by decide))
        have g12 := f12.out (hall 12 (by decide))
        have g13 := f13.out (hall 13 (by decide))
        have hal := hide hall
        clear hall f0 f1 f2 f3 f4 f5 f6 f7 f8 f9 f10 f11 f12 f13
        try simp only [puts, Act.put, List.setIfInBounds_toArray, List.set_cons_zero, List.set_cons_succ]
        obtain ⟨-, b1, g1, d1, rfl, hB1, hO1, hb1V⟩ := g13
        have hq1 : PairsIn W.cell? (.slice (some ⟨g1, 0, none⟩) (qs.length + 1) d1) (qs ++ [((b : Int), (a : Int))]) := RecIn.at (RecIn.of_own hO1 (fun _ => rfl) (Nat.le_refl _))
        have hwB := below2 HT2.out.hb hG
        clear hG hal g2 g5 g9 g10 g11 g12 hO1 hb1V c0 c1 HPS HT2
        generalize W = V3 at *
        have e0 := hB1.cell 0 rfl
        have e1 := hB1.cell 1 rfl
        go_wp2_with fail
        refine (HCC.out _ _ hq1).mono ?_
        rintro e w31 ⟨cv9, rfl, -, hb31⟩
        rw [hs2]
        have hB2 := hB1.later hb31
        have hq2 := hq1.below hb31
        have hwC := below2 hwB hb31
        clear hB1 hq1 hwB hb31 e0 e1 HCC
        have e0 := hB2.cell 0 rfl
        have e1 := hB2.cell 1 rfl
        go_wp2_with fail
        refine (HVV.out _ _ hq2).mono ?_
        rintro e w32 ⟨rfl, hb32⟩
        have hB3 := hB2.later hb32
        have hq3 := hq2.below hb32
        have hwD := below2 hwC hb32
        clear hB2 hq2 hwC hb32 e0 e1 HVV
        have e0 := hB3.cell 0 rfl
        have e1 := hB3.cell 1 rfl
        go_wp2_with fail
        refine (HFF.out _ _ hq3).mono ?_
        rintro e w33 ⟨rfl, hb33⟩
        have hwE := below2 hwD hb33
        clear hB3 hq3 hwD hb33 e0 e1 HFF
        go_wp2_with fail
        go_ret
        exact ⟨rfl, hwE⟩
structure CySG (w : World) (P N : Nat) (qs : List (Int × Int)) (ls : List Int) (c : List Nat) (pv lv cv : Value) (W : World) : Prop where
  bP : Blk W P [.int .i64 (N : Nat), pv] 25
  hp : PairsIn W.cell? pv qs
  hl : IntsIn W.cell? lv ls
  hc : IntsIn W.cell? cv (natsO c)
  hb : Below w.heap.size w W
theorem CySG.later {w : World} {P N : Nat} {qs : List (Int × Int)} {ls : List Int} {c : List Nat} {pv lv cv : Value} {W W' : World} (h : CySG w P N qs ls c pv lv cv W) (hb : Below W.heap.size W W') : CySG w P N qs ls c pv lv cv W' :=
  ⟨h.bP.later hb, h.hp.below hb, ints_bel h.hl hb, ints_bel h.hc hb, below2 h.hb hb⟩
set_option maxRecDepth 100000 in
set_option maxHeartbeats 8000000 in
theorem cycles_some (n : Int) (xs : List (Int × Int)) (xv : Value) (ls : List Int) (lv : Value) (a0 b0 : Int) (w : World) (hn : i64B n) (hx : PairsIn w.cell? xv xs) (h64 : ∀ p ∈ xs, i64B p.1 ∧ i64B p.2) (hl : IntsIn w.cell? lv ls) (hl64 : ∀ x ∈ ls, i64B x) (ha : i64B a0) (hb : i64B b0) (hGl : Glob w)
    (c : List Nat) (hcy : cycO (looseN n) (relP (looseL (looseN n) xs)) = some c) :
    Calls Tryd.prog 8 #[.int .i64 n, xv, lv, .int .i64 a0, .int .i64 b0] w (Ret (.bool true) w) := by
  have HLO := hide (fun W (hb : Below w.heap.size w W) => loose_any n xs xv W hn (RecIn.below hb hx) h64)
  have hN8 := looseN_le n
  have HPA := hide (fun W => pickl_any a0 8 W ha (by decide) (by decide))
  have HPB := hide (fun W => pickl_any b0 8 W hb (by decide) (by decide))
  have ha8 := pk_lt a0 (n := 8) (by decide)
  have hb8 := pk_lt b0 (n := 8) (by decide)
  have HPI := hide (fun y (hy : y ∈ ls) W => pickl_any y 8 W (hl64 y hy) (by decide) (by decide))
  generalize pkO a0 8 = a at *
  generalize pkO b0 8 = b at *
  have hF := loose_formK _ hN8 xs
  have hql := loose_len (looseN n) xs
  generalize looseL (looseN n) xs = qs at *
  generalize looseN n = N at *
  have HFO := hide (fun pv W hp => formed_any ⟨(N : Int), qs⟩ pv W hp)
  have HVO := hide (fun pv W hp => valid_any ⟨(N : Int), qs⟩ pv W hp)
  have HCY := hide (fun pv W hp => cycle_any ⟨(N : Int), qs⟩ pv W hp)
  rw [hF] at HFO
  have hcv := cyc_valid hF
  rw [show cycO (OrderD.n ⟨(N : Int), qs⟩).toNat (relP (OrderD.pairs ⟨(N : Int), qs⟩)) = (some c) from hcy] at hcv
  rw [show cycF ⟨(N : Int), qs⟩ = (some c) by unfold cycF; rw [if_pos hF]; exact hcy] at HCY
  rw [hcv] at HVO
  have HAG := hide (fun h => against_facts hF hql (a := a) (b := b) h)
  have HF := hide hF
  have HCV := hide hcv
  obtain ⟨xa, xc, rfl, -, -, -⟩ := id hx
  obtain ⟨la, lc, rfl, hl1, hl2, -⟩ := id hl
  have hlI : (ls.length : Int) ≤ 9223372036854775807 := by omega
  have HLS := hide hl
  clear hx h64 hn hl hF hcv ha hb hl1 hl2
  go_enter Tryd.func8, Tryd.ntmps8
  go_wp2_with fail
  refine (sane_any w hGl).mono ?_
  rintro e w1 ⟨rfl, hb1⟩
  clear hGl
  go_wp2_with fail
  refine (HLO.out _ hb1).mono ?_
  rintro e w2 ⟨pv, rfl, hO, hb2⟩
  have hp2 : PairsIn w2.cell? pv qs := RecIn.at (RecIn.of_own hO (fun _ => rfl) (Nat.le_refl _))
  have hw2 := below2 hb1 hb2
  obtain ⟨pa, pc, rfl⟩ := OwnR.formE hO
  rw [List.length_map] at hp2 ⊢
  clear hO hb1 hb2 HLO
  go_upto_region 5 with (fail)
  generalize hY1 : World.alloc w2 _ = Y1
  have zY1 : Y1.heap.size = w2.heap.size + 1 := by rw [← hY1]; simp
  have bY1 : Below w2.heap.size w2 Y1 := by rw [← hY1]; exact bal w2 _
  have bP : Blk Y1 (w2.heap.size) [.int .i64 (N : Nat), .slice pa qs.length pc] 25 := by rw [← hY1]; exact Blk.newA w2 _ (by first | rfl | simp)
  have Yb := bY1
  have Yz := zY1
  clear hY1 zY1 bY1
  obtain ⟨P, hP⟩ : ∃ P, w2.heap.size = P := ⟨_, rfl⟩
  rw [hP] at bP ⊢
  have hG : CyG w P N qs ls (.slice pa qs.length pc) (.slice la ls.length lc) Y1 := ⟨bP, RecIn.below Yb hp2, ints_bel HLS.out (below2 hw2 Yb), below2 hw2 Yb⟩
  clear hp2 hw2 Yb Yz hP bP HLS
  have c0 := hG.bP.cell 0 rfl
  have c1 := hG.bP.cell 1 rfl
  go_wp2_with fail
  refine (HCY.out _ _ hG.hp).mono ?_
  rintro e w3 ⟨cv, rfl, hv, hb3⟩
  have hG3 := hG.later hb3
  have hci := IntsIn.at hv
  clear hv hb3 hG c0 c1 HCY
  have c0 := hG3.bP.cell 0 rfl
  have c1 := hG3.bP.cell 1 rfl
  have HRO := hide (fun l (h : roundB (relP qs) l = true) => (show c.length < l.length ∨ (c.length = l.length ∧ lexO c l) by
    obtain ⟨c', h1, h2⟩ := cyc_first (n := N) (rel_irr HF.out) (round_iff.1 h) (round_dom HF.out (round_iff.1 h))
    rw [hcy] at h1; cases h1; exact h2))
  obtain ⟨hrc, hnd⟩ := cyc_is hcy
  have hcl : c.length ≤ N := nodup_le N hnd (round_dom HF.out hrc)
  have HRC := hide (round_iff.2 hrc)
  have HND := hide hnd
  have HBE : Hid (befB ⟨(N : Int), qs⟩ a b = false) := hide (by unfold befB; rw [HCV.out]; rfl)
  have hcI : (c.length : Int) ≤ 9223372036854775807 := by omega
  clear hcy HCV hrc hnd HAG
  go_wp2_with fail
  refine (HFO.out _ _ hG3.hp).mono ?_
  rintro e w4 ⟨rfl, hb4⟩
  have hG4 := hG3.later hb4
  have hci4 := ints_bel hci hb4
  clear hb4 hG3 hci c0 c1 HFO
  have c0 := hG4.bP.cell 0 rfl
  have c1 := hG4.bP.cell 1 rfl
  go_wp2_with fail
  refine (HVO.out _ _ hG4.hp).mono ?_
  rintro e w5 ⟨rfl, hb5⟩
  have hG5 := hG4.later hb5
  have hci5 := ints_bel hci4 hb5
  clear hb5 hG4 hci4 c0 c1 HVO
  have hci6 : IntsIn w5.cell? cv (natsO c) := hci5
  obtain ⟨ca, cc, rfl, -, -⟩ := ints_natf hci6
  have c0 := hG5.bP.cell 0 rfl
  have c1 := hG5.bP.cell 1 rfl
  go_wp2_with fail
  refine (round_any _ qs _ c _ _ hG5.hp hci6).mono ?_
  rintro e w6 ⟨rfl, hb6⟩
  rw [HRC.out]
  have HG6 : Hid (CySG w P N qs ls c (.slice pa qs.length pc) (.slice la ls.length lc) (.slice ca c.length cc) w6) := hide ⟨hG5.bP.later hb6, hG5.hp.below hb6, ints_bel hG5.hl hb6, ints_bel hci6 hb6, below2 hG5.hb hb6⟩
  clear c0 c1 hb6 hG5 hci5 hci6 HRC
  go_wp2_with fail
  go_loopw [15] (fun i wr => ∃ k : Nat, k ≤ c.length ∧ i = .int .i64 k ∧ Below w6.heap.size w6 wr) (fun i _ => c.length - (intOf i).toNat)
  case atStart => exact ⟨0, by omega, rfl, Below.refl _ _⟩
  case round =>
    obtain ⟨k, hk, rfl, hbr⟩ := hrel
    have HBR := hide hbr
    clear hbr
    by_cases hlk : k < c.length
    · have hlkI : (k : Int) < c.length := by omega
      have HK := hide hlk
      have hkI : (k : Int) ≤ 9223372036854775807 := by omega
      go_wp2_with fail
      go_loopw [16] (fun j wz => ∃ h : Nat, h ≤ k ∧ j = .int .i64 h ∧ Below w6.heap.size w6 wz) (fun j _ => k - (intOf j).toNat)
      case atStart => exact ⟨0, by omega, rfl, HBR.out⟩
      case round =>
        obtain ⟨h, hh, rfl, hbz⟩ := hrel
        have HBZ := hide hbz
        clear hbz
        by_cases hlh : h < k
        · have hlhI : (h : Int) < k := by omega
          have HH := hide hlh
          have hhc : h < c.length := by omega
          have hhcI : (h : Int) < c.length := by omega
          obtain ⟨cb, co, rfl, q1⟩ := ints_nat (HG6.out.later HBZ.out).hc hlk
          have q2 := ints_nat2 (HG6.out.later HBZ.out).hc hhc
          have hne : c.getD h 0 ≠ c.getD k 0 := by
            have h := (List.pairwise_iff_getElem.1 HND.out) h k hhc hlk hlh
            simpa [List.getD_eq_getElem?_getD, hhc, hlk] using h
          obtain ⟨x, hx⟩ : ∃ x, c.getD k 0 = x := ⟨_, rfl⟩
          obtain ⟨y, hy⟩ : ∃ y, c.getD h 0 = y := ⟨_, rfl⟩
          rw [hx, hy] at hne
          rw [hx] at q1
          rw [hy] at q2
          have hxyI : ((x : Int) == (y : Int)) = false := by simp; omega
          clear hx hy hne
          go_upto_region 17 with (fail)
          refine wp_region_still_tail 8 (by kernel_rfl) (by kernel_rfl) ?_
          simp only [List.take_succ_cons, List.take_zero, List.drop_succ_cons, List.drop_zero]
          repeat (with_reducible refine wpStill_step (fun K hK => ?_) ; go_simp ; with_reducible refine hK _ ?_ ; clear hK K)
          refine wpStill_nil ?_
          change wpList _ _ _ _ _ wr.drew
          have HBZ2 := hide (HBZ.out.drew)
          clear q1 q2
          go_wp2_with fail
          go_roundw
          case rel => exact ⟨h + 1, by have := HH.out; omega, by go_num, HBZ2.out⟩
          case measure => have := HH.out; simp [intOf]; omega
        · obtain rfl : k = h := by omega
          go_wp2_with fail
          go_roundw
          case rel => exact ⟨k + 1, by have := HK.out; omega, by go_num, HBZ.out⟩
          case measure => have := HK.out; simp [intOf]; omega
    · obtain rfl : k = c.length := by omega
      have HG10 := hide (HG6.out.later HBR.out)
      clear HBR HG6
      generalize wr = w10 at *
      go_wp2_with fail
      go_loopw [17, 18] (fun v i wr => ∃ k : Nat, k ≤ ls.length ∧ k ≤ 8 ∧ i = .int .i64 k ∧ OwnI wr w10.heap.size v (natsO ((ls.take k).map fun y => pkO y 8)) ∧ Below w10.heap.size w10 wr) (fun _ i _ => ls.length - (intOf i).toNat)
      case atStart => exact ⟨0, by omega, by omega, rfl, OwnI.nil _ _, Below.refl _ _⟩
      case round =>
        obtain ⟨k, hk, hk8, rfl, hO, hbr⟩ := hrel
        obtain ⟨va, vc, rfl⟩ := hO.form
        rw [natsO_len, List.length_map, List.length_take, Nat.min_eq_left hk] at hO ⊢
        have HGW := hide (HG10.out.later hbr)
        by_cases hlt : k < ls.length
        · have hltI : (k : Int) < ls.length := by omega
          by_cases hlt8 : k < 8
          · have hlt8I : (k : Int) < 8 := by omega
            have HK := hide hlt
            have HK8 := hide hlt8
            obtain ⟨a', m', e', -, -, hc⟩ := HGW.out.hl
            obtain ⟨rfl, -, -⟩ := Value.slice.inj e'
            obtain ⟨lb, lo, rfl, q1⟩ := hc k hlt
            have HP1 := hide (HPI.out _ (getD_mem ls k (d := 0) hlt))
            have HTK := hide (pk_take hlt)
            obtain ⟨y, hy⟩ : ∃ y, ls.getD k 0 = y := ⟨_, rfl⟩
            rw [hy] at q1 HP1 HTK
            have hqn : (natsO ((ls.take k).map fun y => pkO y 8)).length = k := by rw [natsO_len, List.length_map, List.length_take, Nat.min_eq_left hk]
            generalize natsO ((ls.take k).map fun y => pkO y 8) = q at *
            generalize pkO y 8 = z at *
            have HO := hide hO
            have HBR := hide hbr
            clear hc e' hy hO hbr
            go_wp2_with fail
            refine (HP1.out _).mono ?_
            rintro e w11 ⟨rfl, hw11⟩
            obtain rfl := hw11
            clear q1
            have hO := HO.out
            have hsz := HBR.out.size
            have hql : q.length < 1000000 := by omega
            go_wp2_with (at_builtin; refine app_intE rfl _ _ rfl w10.heap.size _ q rfl hO (z : Int) rfl hql hsz ?_; intro v3 w3 hO3 hE3 hob3; have HB3 := hide (HBR.out.trans (hE3.below hsz (fun k e => (hO.ltB e.symm).1))); have HO3 := hide hO3; clear hO3 hE3 hob3)
            go_roundw
            case rel => exact ⟨k + 1, by have := HK.out; omega, by have := HK8.out; omega, by go_num, by rw [HTK.out]; exact HO3.out, HB3.out⟩
            case measure => have := HK.out; simp [intOf]; omega
          · have hlt8I : ¬ (k : Int) < 8 := by omega
            have hOI := hO.ints
            have hkl : ((ls.take k).map fun y => pkO y 8).length = k := by rw [List.length_map, List.length_take, Nat.min_eq_left hk]
            generalize ((ls.take k).map fun y => pkO y 8) = oth at *
            have hkI : (k : Int) ≤ 9223372036854775807 := by omega
            have HOI := hide hOI
            clear hOI hO hbr
            have c0 := HGW.out.bP.cell 0 rfl
            have c1 := HGW.out.bP.cell 1 rfl
            go_wp2_with fail
            refine (round_any _ qs _ oth _ _ HGW.out.hp HOI.out).mono ?_
            rintro e w20 ⟨rfl, hb20⟩
            have HTT := hide (HGW.out.later hb20)
            have HOJ := hide (ints_bel HOI.out hb20)
            clear c0 c1 hb20 HGW HOI
            cases hr : roundB (relP qs) oth
            · clear hr
              have HT := HTT
              go_wp2_with fail
              refine (HPA.out _).mono ?_
              rintro e w21 ⟨rfl, hw21⟩
              obtain rfl := hw21
              go_wp2_with fail
              refine (HPB.out _).mono ?_
              rintro e w22 ⟨rfl, hw22⟩
              obtain rfl := hw22
              have c0 := HT.out.bP.cell 0 rfl
              have c1 := HT.out.bP.cell 1 rfl
              go_wp2_with fail
              refine (before_any ⟨(N : Int), qs⟩ _ a b _ HT.out.hp).mono ?_
              rintro e w23 ⟨rfl, hb23⟩
              have hT := HT.out.later hb23
              clear c0 c1 hb23
              rw [HBE.out]
              go_wp2_with fail
              go_ret
              exact ⟨rfl, hT.hb⟩
            · have hro := HRO.out oth hr
              have hlo : ¬ (k : Int) < c.length := by omega
              have hlo2 : ¬ k < c.length := by omega
              have hlo3 : decide (k < c.length) = false := decide_eq_false hlo2
              have HLX : Hid (k = c.length → lexO c oth) := hide (fun h => by
                rcases hro with h1 | ⟨-, h1⟩
                · omega
                · exact h1)
              clear hr hro
              go_wp2_with fail
              go_loopw [19] (fun i wr => ∃ m : Nat, m ≤ c.length ∧ Hid (∀ j, j < m → c.getD j 0 = oth.getD j 0) ∧ i = .int .i64 m ∧ Below w20.heap.size w20 wr) (fun i _ => c.length - (intOf i).toNat)
              case atStart => exact ⟨0, by omega, hide (fun j hj => by omega), rfl, Below.refl _ _⟩
              case round =>
                obtain ⟨m, hk, HEQ, rfl, hbr⟩ := hrel
                have HT := hide (HTT.out.later hbr)
                have HOK := hide (ints_bel HOJ.out hbr)
                have HBR := hide hbr
                clear hbr
                by_cases hlk : m < c.length
                · have hlkI : (m : Int) < c.length := by omega
                  by_cases hE : k = c.length
                  · have hEI : ((k : Int) == (c.length : Int)) = true := by rw [hE]; simp
                    have hko : m < k := by omega
                    have hko2 : m < oth.length := by omega
                    have HK := hide hlk
                    obtain ⟨cb, co, rfl, q1⟩ := ints_nat HT.out.hc hlk
                    obtain ⟨ob, oo, rfl, q2⟩ := ints_nat HOK.out hko2
                    have hlex := HLX.out hE
                    have HST : Hid (c.getD m 0 = oth.getD m 0 → ∀ j, j < m + 1 → c.getD j 0 = oth.getD j 0) := hide (fun h j hj => by
                      rcases Nat.lt_succ_iff_lt_or_eq.1 hj with h1 | rfl
                      · exact HEQ.out j h1
                      · exact h)
                    have HLT := hide (fun h => lex_at hlex HEQ.out h)
                    have hkoI : (m : Int) < k := by omega
                    obtain ⟨x, hx⟩ : ∃ x, c.getD m 0 = x := ⟨_, rfl⟩
                    obtain ⟨y, hy⟩ : ∃ y, oth.getD m 0 = y := ⟨_, rfl⟩
                    rw [hx, hy] at HST HLT
                    rw [hx] at q1
                    rw [hy] at q2
                    clear hx hy hlex hE
                    go_upto_region 30 with (fail)
                    refine wp_region_still_tail 8 (by kernel_rfl) (by kernel_rfl) ?_
                    simp only [List.take_succ_cons, List.take_zero, List.drop_succ_cons, List.drop_zero]
                    repeat (with_reducible refine wpStill_step (fun K hK => ?_) ; go_simp ; with_reducible refine hK _ ?_ ; clear hK K)
                    refine wpStill_nil ?_
                    change wpList _ _ _ _ _ wr.drew
                    have HBR2 := hide (HBR.out.drew)
                    by_cases hxy : x = y
                    · have HS2 := hide (HST.out hxy)
                      have hxyI : ((x : Int) == (y : Int)) = true := by rw [hxy]; simp
                      clear hxy
                      go_wp2_with fail
                      clear q1 q2
                      go_roundw
                      case rel => exact ⟨m + 1, by have := HK.out; omega, HS2, by go_num, HBR2.out⟩
                      case measure => have := HK.out; simp [intOf]; omega
                    · have hlt := HLT.out hxy
                      have hxyI : ((x : Int) == (y : Int)) = false := by simp; omega
                      have hgt : ¬ (y : Int) < x := by omega
                      have hgt2 : ¬ y < x := by omega
                      have hgt3 : decide (y < x) = false := decide_eq_false hgt2
                      have q3 := keep ((Below.refl wr.heap.size wr).drew) q1
                      have q4 := keep ((Below.refl wr.heap.size wr).drew) q2
                      clear hxy q1 q2
                      generalize World.drew wr = w24 at *
                      go_upto_region 31 with (fail)
                      refine wp_region_still_tail 8 (by kernel_rfl) (by kernel_rfl) ?_
                      simp only [List.take_succ_cons, List.take_zero, List.drop_succ_cons, List.drop_zero]
                      repeat (with_reducible refine wpStill_step (fun K hK => ?_) ; go_simp ; with_reducible refine hK _ ?_ ; clear hK K)
                      refine wpStill_nil ?_
                      change wpList _ _ _ _ _ w24.drew
                      have HT3 := hide (HTT.out.later (HBR2.out.drew))
                      clear q3 q4 HT HOK HBR2 HBR
                      generalize World.drew w24 = w25 at *
                      have HT := HT3
                      clear HT3
                      go_wp2_with fail
                      refine (HPA.out _).mono ?_
                      rintro e w21 ⟨rfl, hw21⟩
                      obtain rfl := hw21
                      go_wp2_with fail
                      refine (HPB.out _).mono ?_
                      rintro e w22 ⟨rfl, hw22⟩
                      obtain rfl := hw22
                      have c0 := HT.out.bP.cell 0 rfl
                      have c1 := HT.out.bP.cell 1 rfl
                      go_wp2_with fail
                      refine (before_any ⟨(N : Int), qs⟩ _ a b _ HT.out.hp).mono ?_
                      rintro e w23 ⟨rfl, hb23⟩
                      have hT := HT.out.later hb23
                      clear c0 c1 hb23
                      rw [HBE.out]
                      go_wp2_with fail
                      go_ret
                      exact ⟨rfl, hT.hb⟩
                  · have hEI : ((k : Int) == (c.length : Int)) = false := by simp; omega
                    go_wp2_with fail
                    refine (HPA.out _).mono ?_
                    rintro e w21 ⟨rfl, hw21⟩
                    obtain rfl := hw21
                    go_wp2_with fail
                    refine (HPB.out _).mono ?_
                    rintro e w22 ⟨rfl, hw22⟩
                    obtain rfl := hw22
                    have c0 := HT.out.bP.cell 0 rfl
                    have c1 := HT.out.bP.cell 1 rfl
                    go_wp2_with fail
                    refine (before_any ⟨(N : Int), qs⟩ _ a b _ HT.out.hp).mono ?_
                    rintro e w23 ⟨rfl, hb23⟩
                    have hT := HT.out.later hb23
                    clear c0 c1 hb23
                    rw [HBE.out]
                    go_wp2_with fail
                    go_ret
                    exact ⟨rfl, hT.hb⟩
                · obtain rfl : m = c.length := by omega
                  go_wp2_with fail
                  refine (HPA.out _).mono ?_
                  rintro e w21 ⟨rfl, hw21⟩
                  obtain rfl := hw21
                  go_wp2_with fail
                  refine (HPB.out _).mono ?_
                  rintro e w22 ⟨rfl, hw22⟩
                  obtain rfl := hw22
                  have c0 := HT.out.bP.cell 0 rfl
                  have c1 := HT.out.bP.cell 1 rfl
                  go_wp2_with fail
                  refine (before_any ⟨(N : Int), qs⟩ _ a b _ HT.out.hp).mono ?_
                  rintro e w23 ⟨rfl, hb23⟩
                  have hT := HT.out.later hb23
                  clear c0 c1 hb23
                  rw [HBE.out]
                  go_wp2_with fail
                  go_ret
                  exact ⟨rfl, hT.hb⟩
        · obtain rfl : k = ls.length := by omega
          have hOI := hO.ints
          have hkl : ((ls.take ls.length).map fun y => pkO y 8).length = ls.length := by rw [List.length_map, List.length_take, Nat.min_eq_left hk]
          generalize ((ls.take ls.length).map fun y => pkO y 8) = oth at *
          have hkI : (ls.length : Int) ≤ 9223372036854775807 := by omega
          have HOI := hide hOI
          clear hOI hO hbr
          generalize ls.length = k at *
          have c0 := HGW.out.bP.cell 0 rfl
          have c1 := HGW.out.bP.cell 1 rfl
          go_wp2_with fail
          refine (round_any _ qs _ oth _ _ HGW.out.hp HOI.out).mono ?_
          rintro e w20 ⟨rfl, hb20⟩
          have HTT := hide (HGW.out.later hb20)
          have HOJ := hide (ints_bel HOI.out hb20)
          clear c0 c1 hb20 HGW HOI
          cases hr : roundB (relP qs) oth
          · clear hr
            have HT := HTT
            go_wp2_with fail
            refine (HPA.out _).mono ?_
            rintro e w21 ⟨rfl, hw21⟩
            obtain rfl := hw21
            go_wp2_with fail
            refine (HPB.out _).mono ?_
            rintro e w22 ⟨rfl, hw22⟩
            obtain rfl := hw22
            have c0 := HT.out.bP.cell 0 rfl
            have c1 := HT.out.bP.cell 1 rfl
            go_wp2_with fail
            refine (before_any ⟨(N : Int), qs⟩ _ a b _ HT.out.hp).mono ?_
            rintro e w23 ⟨rfl, hb23⟩
            have hT := HT.out.later hb23
            clear c0 c1 hb23
            rw [HBE.out]
            go_wp2_with fail
            go_ret
            exact ⟨rfl, hT.hb⟩
          · have hro := HRO.out oth hr
            have hlo : ¬ (k : Int) < c.length := by omega
            have hlo2 : ¬ k < c.length := by omega
            have hlo3 : decide (k < c.length) = false := decide_eq_false hlo2
            have HLX : Hid (k = c.length → lexO c oth) := hide (fun h => by
              rcases hro with h1 | ⟨-, h1⟩
              · omega
              · exact h1)
            clear hr hro
            go_wp2_with fail
            go_loopw [19] (fun i wr => ∃ m : Nat, m ≤ c.length ∧ Hid (∀ j, j < m → c.getD j 0 = oth.getD j 0) ∧ i = .int .i64 m ∧ Below w20.heap.size w20 wr) (fun i _ => c.length - (intOf i).toNat)
            case atStart => exact ⟨0, by omega, hide (fun j hj => by omega), rfl, Below.refl _ _⟩
            case round =>
              obtain ⟨m, hk, HEQ, rfl, hbr⟩ := hrel
              have HT := hide (HTT.out.later hbr)
              have HOK := hide (ints_bel HOJ.out hbr)
              have HBR := hide hbr
              clear hbr
              by_cases hlk : m < c.length
              · have hlkI : (m : Int) < c.length := by omega
                by_cases hE : k = c.length
                · have hEI : ((k : Int) == (c.length : Int)) = true := by rw [hE]; simp
                  have hko : m < k := by omega
                  have hko2 : m < oth.length := by omega
                  have HK := hide hlk
                  obtain ⟨cb, co, rfl, q1⟩ := ints_nat HT.out.hc hlk
                  obtain ⟨ob, oo, rfl, q2⟩ := ints_nat HOK.out hko2
                  have hlex := HLX.out hE
                  have HST : Hid (c.getD m 0 = oth.getD m 0 → ∀ j, j < m + 1 → c.getD j 0 = oth.getD j 0) := hide (fun h j hj => by
                    rcases Nat.lt_succ_iff_lt_or_eq.1 hj with h1 | rfl
                    · exact HEQ.out j h1
                    · exact h)
                  have HLT := hide (fun h => lex_at hlex HEQ.out h)
                  have hkoI : (m : Int) < k := by omega
                  obtain ⟨x, hx⟩ : ∃ x, c.getD m 0 = x := ⟨_, rfl⟩
                  obtain ⟨y, hy⟩ : ∃ y, oth.getD m 0 = y := ⟨_, rfl⟩
                  rw [hx, hy] at HST HLT
                  rw [hx] at q1
                  rw [hy] at q2
                  clear hx hy hlex hE
                  go_upto_region 30 with (fail)
                  refine wp_region_still_tail 8 (by kernel_rfl) (by kernel_rfl) ?_
                  simp only [List.take_succ_cons, List.take_zero, List.drop_succ_cons, List.drop_zero]
                  repeat (with_reducible refine wpStill_step (fun K hK => ?_) ; go_simp ; with_reducible refine hK _ ?_ ; clear hK K)
                  refine wpStill_nil ?_
                  change wpList _ _ _ _ _ wr.drew
                  have HBR2 := hide (HBR.out.drew)
                  by_cases hxy : x = y
                  · have HS2 := hide (HST.out hxy)
                    have hxyI : ((x : Int) == (y : Int)) = true := by rw [hxy]; simp
                    clear hxy
                    go_wp2_with fail
                    clear q1 q2
                    go_roundw
                    case rel => exact ⟨m + 1, by have := HK.out; omega, HS2, by go_num, HBR2.out⟩
                    case measure => have := HK.out; simp [intOf]; omega
                  · have hlt := HLT.out hxy
                    have hxyI : ((x : Int) == (y : Int)) = false := by simp; omega
                    have hgt : ¬ (y : Int) < x := by omega
                    have hgt2 : ¬ y < x := by omega
                    have hgt3 : decide (y < x) = false := decide_eq_false hgt2
                    have q3 := keep ((Below.refl wr.heap.size wr).drew) q1
                    have q4 := keep ((Below.refl wr.heap.size wr).drew) q2
                    clear hxy q1 q2
                    generalize World.drew wr = w24 at *
                    go_upto_region 31 with (fail)
                    refine wp_region_still_tail 8 (by kernel_rfl) (by kernel_rfl) ?_
                    simp only [List.take_succ_cons, List.take_zero, List.drop_succ_cons, List.drop_zero]
                    repeat (with_reducible refine wpStill_step (fun K hK => ?_) ; go_simp ; with_reducible refine hK _ ?_ ; clear hK K)
                    refine wpStill_nil ?_
                    change wpList _ _ _ _ _ w24.drew
                    have HT3 := hide (HTT.out.later (HBR2.out.drew))
                    clear q3 q4 HT HOK HBR2 HBR
                    generalize World.drew w24 = w25 at *
                    have HT := HT3
                    clear HT3
                    go_wp2_with fail
                    refine (HPA.out _).mono ?_
                    rintro e w21 ⟨rfl, hw21⟩
                    obtain rfl := hw21
                    go_wp2_with fail
                    refine (HPB.out _).mono ?_
                    rintro e w22 ⟨rfl, hw22⟩
                    obtain rfl := hw22
                    have c0 := HT.out.bP.cell 0 rfl
                    have c1 := HT.out.bP.cell 1 rfl
                    go_wp2_with fail
                    refine (before_any ⟨(N : Int), qs⟩ _ a b _ HT.out.hp).mono ?_
                    rintro e w23 ⟨rfl, hb23⟩
                    have hT := HT.out.later hb23
                    clear c0 c1 hb23
                    rw [HBE.out]
                    go_wp2_with fail
                    go_ret
                    exact ⟨rfl, hT.hb⟩
                · have hEI : ((k : Int) == (c.length : Int)) = false := by simp; omega
                  go_wp2_with fail
                  refine (HPA.out _).mono ?_
                  rintro e w21 ⟨rfl, hw21⟩
                  obtain rfl := hw21
                  go_wp2_with fail
                  refine (HPB.out _).mono ?_
                  rintro e w22 ⟨rfl, hw22⟩
                  obtain rfl := hw22
                  have c0 := HT.out.bP.cell 0 rfl
                  have c1 := HT.out.bP.cell 1 rfl
                  go_wp2_with fail
                  refine (before_any ⟨(N : Int), qs⟩ _ a b _ HT.out.hp).mono ?_
                  rintro e w23 ⟨rfl, hb23⟩
                  have hT := HT.out.later hb23
                  clear c0 c1 hb23
                  rw [HBE.out]
                  go_wp2_with fail
                  go_ret
                  exact ⟨rfl, hT.hb⟩
              · obtain rfl : m = c.length := by omega
                go_wp2_with fail
                refine (HPA.out _).mono ?_
                rintro e w21 ⟨rfl, hw21⟩
                obtain rfl := hw21
                go_wp2_with fail
                refine (HPB.out _).mono ?_
                rintro e w22 ⟨rfl, hw22⟩
                obtain rfl := hw22
                have c0 := HT.out.bP.cell 0 rfl
                have c1 := HT.out.bP.cell 1 rfl
                go_wp2_with fail
                refine (before_any ⟨(N : Int), qs⟩ _ a b _ HT.out.hp).mono ?_
                rintro e w23 ⟨rfl, hb23⟩
                have hT := HT.out.later hb23
                clear c0 c1 hb23
                rw [HBE.out]
                go_wp2_with fail
                go_ret
                exact ⟨rfl, hT.hb⟩
theorem cycles_any (n : Int) (xs : List (Int × Int)) (xv : Value) (ls : List Int) (lv : Value) (a0 b0 : Int) (w : World) (hn : i64B n) (hx : PairsIn w.cell? xv xs) (h64 : ∀ p ∈ xs, i64B p.1 ∧ i64B p.2) (hl : IntsIn w.cell? lv ls) (hl64 : ∀ x ∈ ls, i64B x) (ha : i64B a0) (hb : i64B b0) (hGl : Glob w) :
    Calls Tryd.prog 8 #[.int .i64 n, xv, lv, .int .i64 a0, .int .i64 b0] w (Ret (.bool true) w) := by
  cases hcy : cycO (looseN n) (relP (looseL (looseN n) xs)) with
  | none => exact cycles_none n xs xv ls lv a0 b0 w hn hx h64 hl hl64 ha hb hGl hcy
  | some c => exact cycles_some n xs xv ls lv a0 b0 w hn hx h64 hl hl64 ha hb hGl c hcy
end Go.Proofs.YtnidcoinfmcffaaDoor
