/- The walk of Crash. Conditions: how the disk and the list lie in memory; sizes. -/
import Derived.Test.YtednelejpkchbaaDelH
namespace Go.Proofs.Ytednelejpkchbaa
open Go.RowKit

def ordF (m : Nat) (K : List Int) : List Int := keepI m (Lib.compact (sortF K))
theorem basz (l : List UInt8) : (⟨l.toArray⟩ : ByteArray).size = l.length := by simp [ByteArray.size]
theorem extractE (l : List UInt8) (n : Nat) : (⟨l.toArray⟩ : ByteArray).extract 0 n = ⟨(l.take n).toArray⟩ := by
  apply ByteArray.ext
  simp [ByteArray.data_extract]
def pend0 : Int × List UInt8 := (0, [])
def tornS (n : Nat) (torn : Int) (k : Nat) (s : List UInt8) : List UInt8 := if k + 1 = n ∧ 0 ≤ torn then s.take (min torn.toNat s.length) else s
/-- what is durable behind k of the surviving writes -/
def crashUp (pend : List (Int × List UInt8)) (O : List Int) (torn : Int) (dur : List UInt8) : Nat → List UInt8
  | 0 => dur
  | k + 1 => splice (crashUp pend O torn dur k) (pend.getD (O.getD k 0).toNat pend0).1.toNat (tornS O.length torn k (pend.getD (O.getD k 0).toNat pend0).2)
def crashF (d : DiskD) (K : List Int) (torn : Int) : List UInt8 := crashUp d.pend (ordF d.pend.length K) torn d.dur (ordF d.pend.length K).length
/-- the pending writes lie on the disk -/
def PendOk (d : DiskD) : Prop := ∀ p ∈ d.pend, 0 ≤ p.1 ∧ p.1 + p.2.length ≤ d.dur.length
theorem crashUp_len {pend : List (Int × List UInt8)} {O : List Int} {torn : Int} {dur : List UInt8} (hP : ∀ p ∈ pend, 0 ≤ p.1 ∧ p.1 + p.2.length ≤ dur.length) (hO : ∀ x ∈ O, 0 ≤ x ∧ x < pend.length) : ∀ k, k ≤ O.length → (crashUp pend O torn dur k).length = dur.length
  | 0, _ => rfl
  | k + 1, h => by
    have ih := crashUp_len (torn := torn) hP hO k (by omega)
    have h1 := hO _ (getD_mem O k (d := 0) (by omega))
    have h2 := hP _ (getD_mem pend (O.getD k 0).toNat (d := pend0) (by omega))
    have h3 : (tornS O.length torn k (pend.getD (O.getD k 0).toNat pend0).2).length ≤ (pend.getD (O.getD k 0).toNat pend0).2.length := by
      unfold tornS; split
      · simp; omega
      · exact Nat.le_refl _
    simp only [crashUp]
    rw [length_splice _ _ _ (by omega), ih]
theorem ordF_in (m : Nat) (K : List Int) : ∀ x ∈ ordF m K, 0 ≤ x ∧ x < m := by
  intro x hx
  have := (List.mem_filter.1 hx).2
  simp [outB] at this; omega
theorem ints_low {w : World} {v : Value} {l : List Int} (h : IntsAt w v l) : IntsLow w.heap.size w v l := by
  obtain ⟨a, n, h1, h2, h3, h4⟩ := h
  exact ⟨a, n, h1, h2, h3, fun k hk => let ⟨b, o, e, hc⟩ := h4 k hk; ⟨b, o, e, lt_of_cell hc, hc⟩⟩
theorem OwnI.eff {S : Nat → Prop} {w w' : World} {B : Nat} {v : Value} {l : List Int} (h : OwnI w B v l) (hE : Eff S w w') (hn : ∀ g, v.ownBlock = some g → ¬ S g) : OwnI w' B v l := by
  obtain ⟨h1, h2⟩ := h
  refine ⟨h1, h2.imp id ?_⟩
  rintro ⟨g, cap, cur, e1, e2, e3, e4⟩
  exact ⟨g, cap, cur, e1, e2, (hE.block g ((Array.getElem?_eq_some_iff.1 e3).1) (hn g (by rw [e1]; rfl))).trans e3, e4⟩
theorem OwnI.neT {w : World} {B b : Nat} {t : TypeId} {v : Value} {l : List Int} {vs : List Value} (h : OwnI w B v l) (hb : Blk w b vs t) (ht : t ≠ 3) : v.ownBlock ≠ some b := by
  rcases h.2 with ⟨rfl, -⟩ | ⟨g, cap, cur, rfl, e2, e3, -⟩
  · simp [Value.ownBlock]
  · intro he
    have he : g = b := Option.some.inj he
    subst he
    have := (show w.heap[g]? = _ from hb).symm.trans e3
    simp at this; exact ht this.2
theorem ordF_len (m : Nat) (K : List Int) : (ordF m K).length ≤ K.length := by
  have h1 := keepI_len m (Lib.compact (sortF K))
  have h2 := compact_len_le (sortF K)
  rw [sortF_len] at h2
  unfold ordF; omega
set_option maxRecDepth 20000 in
set_option maxHeartbeats 2000000 in
theorem crash_any (D U V : Nat) (pv : Value) (d : DiskD) (K : List Int) (kv : Value) (torn : Int) (w : World) (h : DiskAt w D U V pv d) (hsz : d.dur.length ≤ 4194304) (hvl : d.vis.length = d.dur.length) (hpl : d.pend.length < 1000000) (hok : PendOk d)
    (hk : IntsAt w kv K) (hkl : K.length < 1000000) (ht : -9223372036854775808 ≤ torn ∧ torn ≤ 9223372036854775807) :
    Calls Try.prog 25 #[.pointer (some ⟨D, 0, none⟩), kv, .int .i64 torn] w (DiskQ 0 ⟨false, 0, crashF d K torn, crashF d K torn, []⟩ D U V pv w) := by
  obtain ⟨o, le, du, vi, pe⟩ := d
  obtain ⟨hD, hU, hV, hP, hUV⟩ := id h
  have c0 : w.cell? ⟨D, 0, none⟩ = some (.bool o) := hD.cell 0 rfl
  have c2 : w.cell? ⟨D, 2, none⟩ = some (.slice (some ⟨U, 0, none⟩) du.length du.length) := hD.cell 2 rfl
  obtain ⟨ka, kc, rfl, -, -, -⟩ := id hk
  have c4 : w.cell? ⟨D, 4, none⟩ = some pv := hD.cell 4 rfl
  obtain ⟨pa, pc, rfl⟩ : ∃ a c, pv = .slice a pe.length c := by
    rcases hP.form with ⟨rfl, e⟩ | ⟨g, c, cur, rfl, -⟩
    · have : pe = [] := by simpa using e
      subst this; exact ⟨none, 0, rfl⟩
    · exact ⟨some ⟨g, 0, none⟩, c, by simp⟩
  have hA := hide h
  have hDlt := hD.lt
  clear hD hU hV hP hUV
  go_enter Try.func25, Try.ntmps25
  go_wp2_with fail
  generalize hW : World.alloc w _ = X0
  have hb : Below w.heap.size w X0 := by rw [← hW]; exact bal w _
  have bX : Blk X0 w.heap.size [.pointer (some ⟨D, 0, none⟩)] 23 := by rw [← hW]; exact Blk.newA w _ rfl
  clear hW
  refine (values_any ka K.length kc X0).mono ?_
  rintro e X1 ⟨rfl, hX1⟩
  have hb1 : Below X0.heap.size X0 X1 := by rw [← hX1]; exact bal X0 _
  have bS : Blk X1 X0.heap.size [.slice ka K.length kc] 37 := by rw [← hX1]; exact Blk.newA X0 _ rfl
  clear hX1
  have hb01 := below2 hb hb1
  go_wp2_with fail
  refine (sorted_any K _ _ X1 (ints_low (hk.below hb01)) (bS.cell 0 rfl) hkl).mono ?_
  rintro e X2 ⟨v2, rfl, hv2, hb2⟩
  go_wp2_with fail
  have hB2 : X1.heap.size ≤ X2.heap.size := hb2.size
  refine (compact_any _ _ X1.heap.size X2 hv2 hB2 (by rw [sortF_len]; exact hkl)).mono ?_
  rintro e X3 ⟨v3, rfl, hv3, hb3⟩
  have hb03 := below2 hb01 (hb2.trans hb3)
  have bX3 : Blk X3 w.heap.size _ _ := bX.below ((hb1.mono (Nat.le_refl _)).trans ((hb2.trans hb3).mono hb1.size)) bX.lt
  have k4 := keep hb03 c4
  go_wp2_with fail
  have hB3 : X1.heap.size ≤ X3.heap.size := (hb2.trans hb3).size
  refine (del_any _ _ X1.heap.size w.heap.size D pe.length X3 hv3 hB3 (by have := compact_len_le (sortF K); rw [sortF_len] at this; omega) ⟨bX3.cell 0 rfl, _, _, k4⟩ (by have := hb1.size; have := bX.lt; omega) (by have := hb01.size; omega)).mono ?_
  rintro e X4 ⟨v4, rfl, hv4, hb4⟩
  have hb04 : Below w.heap.size w X4 := hb03.trans (hb4.mono hb01.size)
  have hA4 := hA.out.later hb04
  have bX4 : Blk X4 w.heap.size _ _ := bX3.below hb4 (by have := hb1.size; have := bX.lt; omega)
  have hOF : keepI pe.length (Lib.compact (sortF K)) = ordF pe.length K := rfl
  rw [hOF] at hv4
  have HOI := hide (ordF_in pe.length K)
  have hOl := ordF_len pe.length K
  have HCF : Hid (crashF ⟨o, le, du, vi, pe⟩ K torn = crashUp pe (ordF pe.length K) torn du (ordF pe.length K).length) := hide rfl
  generalize ordF pe.length K = O at hv4 HOI hOl HCF
  obtain ⟨oa, oc, rfl⟩ := hv4.form
  have hD4 : Blk X4 D [.bool o, .int .i64 le, .slice (some ⟨U, 0, none⟩) du.length du.length, .slice (some ⟨V, 0, none⟩) vi.length vi.length, .slice pa pe.length pc] 65 := hA4.hD
  have hU4 : Blk X4 U (bytesV du) 5 := hA4.hU
  have hP4 : OwnR X4 0 69 2 (.slice pa pe.length pc) (pe.map pendCells) := hA4.hP
  have hV4 : Blk X4 V (bytesV vi) 5 := hA4.hV
  have HUV : Hid (U ≠ V) := hide hA4.hUV
  have HPO : Hid (∀ p ∈ pe, 0 ≤ p.1 ∧ p.1 + p.2.length ≤ du.length) := hide hok
  have HSZ := hide (And.intro (show du.length ≤ 4194304 from hsz) (show vi.length = du.length from hvl))
  have HUD := hD4.neT hU4 (by decide)
  have HUX := bX4.neT hU4 (by decide)
  have HUP := hP4.neT hU4 (by decide)
  have HUO := hv4.neT hU4 (by decide)
  have hOl2 : (O.length : Int) ≤ 9223372036854775807 := by omega
  clear hb hb1 bX hb01 bS hv2 hb2 hB2 hv3 hb3 hb03 bX3 k4 hB3 hb4 hOF hA hA4 c0 c2 c4 hk hok hsz hvl hOl
  go_wp2_with fail
  go_loopw [22] (fun i wr => ∃ k : Nat, k ≤ O.length ∧ i = .int .i64 k ∧ Blk wr U (bytesV (crashUp pe O torn du k)) 5 ∧ Eff (· = U) X4 wr) (fun i _ => O.length - (intOf i).toNat)
  case atStart => exact ⟨0, by omega, rfl, hU4, Eff.refl _ _⟩
  case round =>
    obtain ⟨k, hk, rfl, hUr, hE⟩ := hrel
    have hDr := hD4.eff hE HUD
    have bXr := bX4.eff hE HUX
    have hPr := hP4.eff hE (fun g hg e => HUP (by rw [hg, show g = U from e]))
    have hOr := hv4.eff hE (fun g hg e => HUO (by rw [hg, show g = U from e]))
    have x0 := bXr.cell 0 rfl
    have d4 := hDr.cell 4 rfl
    have d2 := hDr.cell 2 rfl
    by_cases hlt : k < O.length
    · obtain ⟨hx0, hx1⟩ := HOI.out _ (getD_mem O k (d := 0) hlt)
      obtain ⟨q, hq⟩ : ∃ q : Nat, O.getD k 0 = q := ⟨(O.getD k 0).toNat, by omega⟩
      obtain ⟨a', n', e', -, -, hoc⟩ := id hOr.ints
      cases e'
      obtain ⟨b1, o1, rfl, hoc1⟩ := hoc k hlt
      rw [hq] at hoc1 hx1
      have hql : q < pe.length := by omega
      obtain ⟨gp, rfl⟩ : ∃ gp, pa = some ⟨gp, 0, none⟩ := by
        rcases hPr.form with ⟨-, e⟩ | ⟨g, c, cur, e, -⟩
        · have : pe = [] := by simpa using e
          subst this; simp at hql
        · injection e with e; exact ⟨g, e⟩
      have hmem := getD_mem pe q (d := pend0) hql
      have hget : (pe.map pendCells).getD q [] = pendCells (pe.getD q pend0) := by
        rw [List.getD_eq_getElem?_getD, List.getD_eq_getElem?_getD, List.getElem?_map, List.getElem?_eq_getElem hql]; rfl
      obtain ⟨hp1, hp2⟩ := HPO.out _ hmem
      have HCU : Hid (crashUp pe O torn du (k + 1) = splice (crashUp pe O torn du k) (pe.getD q pend0).1.toNat (tornS O.length torn k (pe.getD q pend0).2)) := hide (by show splice _ (pe.getD (O.getD k 0).toNat pend0).1.toNat _ = _; rw [hq, Int.toNat_natCast])
      have r0 : wr.cell? ⟨gp, q * 2, none⟩ = some (.int .i64 (pe.getD q pend0).1) := hPr.cell q 0 (by simpa using hql) (by decide) (by rw [hget]; rfl)
      have r1 : wr.cell? ⟨gp, q * 2 + 1, none⟩ = some (.string ⟨(pe.getD q pend0).2.toArray⟩) := hPr.cell q 1 (by simpa using hql) (by decide) (by rw [hget]; rfl)
      generalize pe.getD q pend0 = p at hp1 hp2 HCU r0 r1 hmem hget
      obtain ⟨po0, ps⟩ := p
      obtain ⟨po, rfl⟩ : ∃ po : Nat, po0 = po := ⟨po0.toNat, by have : 0 ≤ po0 := hp1; omega⟩
      have hp3 : po + ps.length ≤ du.length := by have : (po : Int) + ps.length ≤ du.length := hp2; omega
      have HCL := hide (crashUp_len (torn := torn) HPO.out HOI.out k hk)
      have HQ := hide hq
      have hqm : (q : Int) ≤ 9223372036854775807 := by omega
      have HP3 := hide hp3
      have HUR := hide hUr
      have hlk : (k : Int) ≤ 9223372036854775807 := by omega
      clear hx0 hx1 hq hoc hmem hget hp1 hp2 hp3
      by_cases hla : k + 1 = O.length
      · have e1 : ((k : Int) == (O.length : Int) - 1) = true := by simp; omega
        by_cases ht0 : 0 ≤ torn
        · obtain ⟨tn, rfl⟩ : ∃ tn : Nat, torn = tn := ⟨torn.toNat, by omega⟩
          have HT : Hid (tornS O.length tn k ps = ps.take (min tn ps.length)) := hide (by unfold tornS; rw [if_pos ⟨hla, ht0⟩, Int.toNat_natCast])
          have e2 : decide ((0 : Int) ≤ (tn : Int)) = true := by simp
          have hpl2 : (ps.length : Int) ≤ 9223372036854775807 := by have := HP3.out; have := HSZ.out.1; omega
          clear hla ht0
          have HEX : Hid ((⟨ps.toArray⟩ : ByteArray).extract 0 (min (tn : Int) (ps.length : Int)).toNat = ⟨(ps.take (min tn ps.length)).toArray⟩) := hide (by rw [show (min (tn : Int) (ps.length : Int)).toNat = min tn ps.length by omega]; exact extractE _ _)
          go_wp2_with fail
          rw [HEX.out]
          generalize hW9 : World.alloc wr _ = W9
          have hb9 : Below wr.heap.size wr W9 := by rw [← hW9]; exact bal wr _
          have bw : Blk W9 wr.heap.size [.int .i64 po, .string ⟨(ps.take (min tn ps.length)).toArray⟩] 69 := by rw [← hW9]; exact Blk.newA wr _ rfl
          clear hW9
          have b0 := bw.cell 0 rfl
          have b1 := bw.cell 1 rfl
          have x9 := keep hb9 x0
          have d9 := keep hb9 d2
          go_still_tail 5, (by kernel_rfl)
          change wpList _ _ _ _ _ W9.drew
          obtain ⟨W10, hW10⟩ : ∃ W10, W9.drew = W10 := ⟨_, rfl⟩
          rw [hW10]
          have hb10 : Below W9.heap.size W9 W10 := by rw [← hW10]; exact (Below.refl _ _).drew
          clear hW10
          go_wp2_with fail
          have ho := onto_any U po ⟨(ps.take (min tn ps.length)).toArray⟩ (crashUp pe O tn du k) W10 ((HUR.out.later hb9).later hb10) (by rw [HCL.out, basz]; have := HP3.out; first | omega | (simp; omega)) (by rw [HCL.out]; exact HSZ.out.1)
          rw [HCL.out] at ho
          refine ho.mono ?_
          rintro e W11 ⟨rfl, hU11, hE11⟩
          have hU12 : Blk W11 U (bytesV (crashUp pe O tn du (k + 1))) 5 := by rw [HCU.out, HT.out]; exact hU11
          have hEE := ((hE.trans (Eff.of_below hb9 _)).trans (Eff.of_below hb10 _)).trans hE11
          clear hU11 ho b0 b1 x9 d9
          go_wp2_with fail
          go_roundw
          case rel => exact ⟨k + 1, by omega, by go_num, hU12, hEE⟩
          case measure => simp [intOf]; omega
        · have HT : Hid (tornS O.length torn k ps = ps) := hide (by unfold tornS; rw [if_neg (fun h => ht0 h.2)])
          have e2 : decide (0 ≤ torn) = false := decide_eq_false ht0
          clear hla ht0
          go_wp2_with fail
          generalize hW9 : World.alloc wr _ = W9
          have hb9 : Below wr.heap.size wr W9 := by rw [← hW9]; exact bal wr _
          have bw : Blk W9 wr.heap.size [.int .i64 po, .string ⟨ps.toArray⟩] 69 := by rw [← hW9]; exact Blk.newA wr _ rfl
          clear hW9
          have b0 := bw.cell 0 rfl
          have b1 := bw.cell 1 rfl
          have x9 := keep hb9 x0
          have d9 := keep hb9 d2
          go_still_tail 5, (by kernel_rfl)
          change wpList _ _ _ _ _ W9.drew
          obtain ⟨W10, hW10⟩ : ∃ W10, W9.drew = W10 := ⟨_, rfl⟩
          rw [hW10]
          have hb10 : Below W9.heap.size W9 W10 := by rw [← hW10]; exact (Below.refl _ _).drew
          clear hW10
          go_wp2_with fail
          have ho := onto_any U po ⟨(ps).toArray⟩ (crashUp pe O torn du k) W10 ((HUR.out.later hb9).later hb10) (by rw [HCL.out, basz]; have := HP3.out; first | omega | (simp; omega)) (by rw [HCL.out]; exact HSZ.out.1)
          rw [HCL.out] at ho
          refine ho.mono ?_
          rintro e W11 ⟨rfl, hU11, hE11⟩
          have hU12 : Blk W11 U (bytesV (crashUp pe O torn du (k + 1))) 5 := by rw [HCU.out, HT.out]; exact hU11
          have hEE := ((hE.trans (Eff.of_below hb9 _)).trans (Eff.of_below hb10 _)).trans hE11
          clear hU11 ho b0 b1 x9 d9
          go_wp2_with fail
          go_roundw
          case rel => exact ⟨k + 1, by omega, by go_num, hU12, hEE⟩
          case measure => simp [intOf]; omega
      · have e1 : ((k : Int) == (O.length : Int) - 1) = false := by simp; omega
        have HT : Hid (tornS O.length torn k ps = ps) := hide (by unfold tornS; rw [if_neg (by omega)])
        clear hla
        go_wp2_with fail
        generalize hW9 : World.alloc wr _ = W9
        have hb9 : Below wr.heap.size wr W9 := by rw [← hW9]; exact bal wr _
        have bw : Blk W9 wr.heap.size [.int .i64 po, .string ⟨ps.toArray⟩] 69 := by rw [← hW9]; exact Blk.newA wr _ rfl
        clear hW9
        have b0 := bw.cell 0 rfl
        have b1 := bw.cell 1 rfl
        have x9 := keep hb9 x0
        have d9 := keep hb9 d2
        go_still_tail 5, (by kernel_rfl)
        change wpList _ _ _ _ _ W9.drew
        obtain ⟨W10, hW10⟩ : ∃ W10, W9.drew = W10 := ⟨_, rfl⟩
        rw [hW10]
        have hb10 : Below W9.heap.size W9 W10 := by rw [← hW10]; exact (Below.refl _ _).drew
        clear hW10
        go_wp2_with fail
        have ho := onto_any U po ⟨(ps).toArray⟩ (crashUp pe O torn du k) W10 ((HUR.out.later hb9).later hb10) (by rw [HCL.out, basz]; have := HP3.out; first | omega | (simp; omega)) (by rw [HCL.out]; exact HSZ.out.1)
        rw [HCL.out] at ho
        refine ho.mono ?_
        rintro e W11 ⟨rfl, hU11, hE11⟩
        have hU12 : Blk W11 U (bytesV (crashUp pe O torn du (k + 1))) 5 := by rw [HCU.out, HT.out]; exact hU11
        have hEE := ((hE.trans (Eff.of_below hb9 _)).trans (Eff.of_below hb10 _)).trans hE11
        clear hU11 ho b0 b1 x9 d9
        go_wp2_with fail
        go_roundw
        case rel => exact ⟨k + 1, by omega, by go_num, hU12, hEE⟩
        case measure => simp [intOf]; omega
    · obtain rfl : k = O.length := by omega
      have d3 := hDr.cell 3 rfl
      have hVr := hV4.eff hE (fun e => HUV.out e.symm)
      have hcl := crashUp_len (torn := torn) HPO.out HOI.out O.length (Nat.le_refl _)
      have HCL := hide hcl
      have hSE := hide (fun W (hb : Below wr.heap.size wr W) => settle_any D U V (crashUp pe O torn du O.length) vi _ _ o le _ _ W (hUr.later hb) (hVr.later hb) (hDr.later hb) (hPr.later hb) (by rw [hcl]; exact HSZ.out.2.symm) HUV.out)
      clear hcl
      go_wp2_with fail
      go_still_tail 9, (by kernel_rfl)
      change wpList _ _ _ _ _ wr.drew
      obtain ⟨W1, hW1⟩ : ∃ W1, wr.drew = W1 := ⟨_, rfl⟩
      rw [hW1]
      have hb1 : Below wr.heap.size wr W1 := by rw [← hW1]; exact (Below.refl _ _).drew
      clear hW1
      go_wp2_with fail
      have hSW := hSE.out W1 hb1
      rw [HCL.out] at hSW
      refine hSW.mono ?_
      rintro e W2 ⟨rfl, pv', hV2, hD2, hP2, hob, hE2⟩
      have hUV' := HUV.out
      have hD1 := hDr.later hb1
      have hP1 := hPr.later hb1
      have hU1 := hUr.later hb1
      have bX1 := bXr.later hb1
      have hU2 := hU1.eff hE2 (fun h => h.elim (hU1.neT hD1 (by decide)) (fun h => h.elim hUV' (fun h => hP1.neT hU1 (by decide) h.symm)))
      have bX2 := bX1.eff hE2 (fun h => h.elim (bX1.neT hD1 (by decide)) (fun h => h.elim (bX1.neT (hVr.later hb1) (by decide)) (fun h => hP1.neT bX1 (by decide) h.symm)))
      have x2 := bX2.cell 0 rfl
      have f0 := hD2.frozen 0
      have f1 := hD2.frozen 1
      have k0 := hD2.cell 0 rfl
      have k1 := hD2.cell 1 rfl
      have HB1 := hide (And.intro hE (And.intro (Eff.of_below hb1 (fun _ => False)) hE2))
      clear x0 d4 d2 d3 hSE hSW hE hE2 hb1 hD1 hP1 hU1 bX1 hUr hDr bXr hPr hOr hVr
      go_wp2_with fail
      go_ret
      have hES : Eff (· = D) W2 ((W2.setCell ⟨D, 0, none⟩ (.bool false)).setCell ⟨D, 1, none⟩ (.int .i64 0)) := (Eff.setCell W2 D 0 _).trans (Eff.setCell _ D 1 _)
      refine ⟨rfl, pv', ⟨?_, ?_, ?_, ?_, hUV'⟩, ?_, .inl hob⟩
      · have e : diskCells ⟨false, 0, crashF ⟨o, le, du, vi, pe⟩ K torn, crashF ⟨o, le, du, vi, pe⟩ K torn, []⟩ U V pv' = [.bool false, .int .i64 0, .slice (some ⟨U, 0, none⟩) du.length du.length, .slice (some ⟨V, 0, none⟩) vi.length vi.length, pv'] := by
          simp only [diskCells, HCF.out, HCL.out, HSZ.out.2]
        rw [e]; exact (hD2.set 0 (.bool false)).set 1 (.int .i64 0)
      · rw [HCF.out]; exact hU2.eff hES (hU2.neT hD2 (by decide))
      · rw [HCF.out]; exact hV2.eff hES (hV2.neT hD2 (by decide))
      · exact hP2.eff hES (fun g hg e => hP2.neT hD2 (by decide) (by rw [hg, show g = D from e]))
      · obtain ⟨a1, a2, a3⟩ := HB1.out
        exact ((((Eff.of_below hb04 _).trans (a1.mono fun k _ h => Or.inr (Or.inl h))).trans (a2.mono fun k _ h => h.elim)).trans (a3.mono fun k _ h => h.elim Or.inl (fun h => h.elim (fun h => Or.inr (Or.inr (Or.inl h))) (fun h => Or.inr (Or.inr (Or.inr h)))))).trans (hES.mono fun k _ h => Or.inl h)
end Go.Proofs.Ytednelejpkchbaa
