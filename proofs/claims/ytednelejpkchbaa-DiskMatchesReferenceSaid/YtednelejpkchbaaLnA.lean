/- The reference's disk: walks of has and Crash. Conditions: how it lies in memory; sizes. -/
import Derived.Test.YtednelejpkchbaaRnC
import Derived.StillTailTactics
namespace Go.Proofs.Ytednelejpkchbaa
open Go.RowKit

set_option maxRecDepth 20000 in
set_option maxHeartbeats 1000000 in
theorem has_any (K : List Int) (kv : Value) (x : Int) (w : World) (h : IntsAt w kv K) : Calls Try.prog 43 #[kv, .int .i64 x] w (BoolQ (K.contains x) w) := by
  obtain ⟨a, c, rfl, hc, hc2, hcell⟩ := h
  have HC := hide hcell
  clear hcell
  have hl3 : (K.length : Int) ≤ 9223372036854775807 := by omega
  generalize hcx : K.contains x = cx
  have HCX := hide hcx
  clear hcx
  go_enter Try.func43, Try.ntmps43
  go_wp2_with fail
  go_loop [5] (fun i => ∃ k : Nat, k ≤ K.length ∧ i = .int .i64 k ∧ Hid ((K.take k).any (· == x) = false)) (fun i => K.length - (intOf i).toNat)
  case atStart => exact ⟨0, by omega, rfl, hide rfl⟩
  case round =>
    obtain ⟨k, hk, rfl, HN⟩ := hrel
    by_cases hlt : k < K.length
    · obtain ⟨b, o, rfl, hc0⟩ := HC.out k hlt
      have HM := hide (getD_mem K k (d := 0) hlt)
      have HX := hide (fun h => any_take_succ (p := (· == x)) (d := 0) hlt HN.out h)
      generalize K.getD k 0 = y at hc0 HM HX
      by_cases hy : y = x
      · have e1 : (y == x) = true := by simpa using hy
        have HR : Hid (K.contains x = true) := hide (by have := HM.out; rw [hy] at this; simpa using this)
        clear hy
        go_wp2_with fail
        go_ret
        exact ⟨ret_bool (by rw [← HCX.out, HR.out]), rfl⟩
      · have e1 : (y == x) = false := by simpa using hy
        have HN2 := hide (HX.out e1)
        clear hy
        go_wp2_with fail
        go_round
        case rel => exact ⟨k + 1, by omega, by go_num, HN2⟩
        case measure => simp [intOf]; omega
    · obtain rfl : k = K.length := by omega
      have HR : Hid (K.contains x = false) := hide (by
        have h := HN.out
        rw [List.take_length] at h
        rw [← Bool.not_eq_true, List.contains_iff_mem]
        intro hm
        rw [List.any_eq_false] at h
        exact h x hm (by simp))
      go_wp2_with fail
      go_ret
      exact ⟨ret_bool (by rw [← HCX.out, HR.out]), rfl⟩
theorem own_formE {w : World} {B : Nat} {e : TypeId} {k m : Nat} {v : Value} {L : List (List Value)} (h : OwnR w B e k v L) (hm : L.length = m) : ∃ a c, v = .slice a m c := by
  subst hm
  rcases h.form with ⟨h1, h2⟩ | ⟨g, c, cur, h1, -⟩
  · exact ⟨none, 0, by rw [h1, h2]; rfl⟩
  · exact ⟨_, _, h1⟩
def restR (r : RefD) (K : List Int) (torn : Int) : RefD := ⟨applyUp (survP r.pend K r.pend.length) torn r.sure (survP r.pend K r.pend.length).length, [], false, 0⟩
/-- the call returns nothing; the reference's disk is r' now -/
def RefCQ (r' : RefD) (X : Nat) (sv lv : Value) (w : World) (e : Ending) (w' : World) : Prop :=
  e = .returned (.tuple #[]) ∧ ∃ sv' lv', RefAt w' X sv' lv' r' ∧ Eff (RSet X sv lv) w w' ∧ (sv'.ownBlock = sv.ownBlock ∨ ∀ g, sv'.ownBlock = some g → w.heap.size ≤ g) ∧ (lv'.ownBlock = lv.ownBlock ∨ ∀ g, lv'.ownBlock = some g → w.heap.size ≤ g)
set_option maxRecDepth 20000 in
set_option maxHeartbeats 2000000 in
theorem rcrash_any (n X : Nat) (sv lv : Value) (r : RefD) (K : List Int) (kv : Value) (torn : Int) (w : World) (h : RefAt w X sv lv r) (hok : RefOk n r) (hn1 : 1 ≤ n) (hn : n ≤ 4194304) (hpl : r.pend.length < 1000000) (hk : IntsAt w kv K) (ht : i64B torn) :
    Calls Try.prog 33 #[.pointer (some ⟨X, 0, none⟩), kv, .int .i64 torn] w (RefCQ (restR r K torn) X sv lv w) := by
  obtain ⟨su, pe, dn, le⟩ := r
  obtain ⟨hX, hS, hL⟩ := id h
  have hsl : su.length = n := hok.sure
  obtain ⟨gs, cs, rfl, -, -, -⟩ := hS.form (by show 0 < su.length; omega)
  obtain ⟨la, lc, rfl⟩ : ∃ a c, lv = .slice a pe.length c := by
    rcases hL.form with ⟨rfl, e⟩ | ⟨g, c, cur, e, -⟩
    · have : pe = [] := by simpa using e
      subst this; exact ⟨none, 0, rfl⟩
    · exact ⟨some ⟨g, 0, none⟩, c, by simpa using e⟩
  have hXB := hide hX
  have hSB := hide hS
  have hLB := hide hL
  have c1 : w.cell? ⟨X, 1, none⟩ = some (.slice la pe.length lc) := hX.cell 1 rfl
  have hpl3 : (pe.length : Int) ≤ 9223372036854775807 := by have : pe.length < 1000000 := hpl; omega
  obtain ⟨ka, kc, rfl, -, -, -⟩ := id hk
  have HK := hide hk
  have HOK := hide hok
  clear hX hS hL h hok hk
  go_enter Try.func33, Try.ntmps33
  go_wp2_with fail
  go_loopw [6, 7] (fun al i wr => ∃ k : Nat, k ≤ pe.length ∧ i = .int .i64 k ∧ OwnR wr w.heap.size 80 2 al ((survP pe K k).map pendCells) ∧ Below w.heap.size w wr) (fun _ i _ => pe.length - (intOf i).toNat)
  case atStart => exact ⟨0, by omega, rfl, OwnR.nil _ _ _ _, Below.refl _ _⟩
  case round =>
    obtain ⟨k, hk, rfl, hown, hbr⟩ := hrel
    have hXr := hXB.out.later hbr
    have hLr := hLB.out.later hbr
    have d1 : wr.cell? ⟨X, 1, none⟩ = some (.slice la pe.length lc) := hXr.cell 1 rfl
    by_cases hlt : k < pe.length
    · obtain ⟨gp, rfl⟩ : ∃ gp, la = some ⟨gp, 0, none⟩ := by
        rcases hLr.form with ⟨-, e⟩ | ⟨g, c, cur, e, -⟩
        · have : pe = [] := by simpa using e
          subst this; simp at hlt
        · injection e with e; exact ⟨g, e⟩
      have hget : (pe.map pendCells).getD k [] = pendCells (pe.getD k pend0) := by
        rw [List.getD_eq_getElem?_getD, List.getD_eq_getElem?_getD, List.getElem?_map, List.getElem?_eq_getElem hlt]; rfl
      have r0 : wr.cell? ⟨gp, k * 2, none⟩ = some (.int .i64 (pe.getD k pend0).1) := hLr.cell k 0 (by simpa using hlt) (by decide) (by rw [hget]; rfl)
      have r1 : wr.cell? ⟨gp, k * 2 + 1, none⟩ = some (.string ⟨(pe.getD k pend0).2.toArray⟩) := hLr.cell k 1 (by simpa using hlt) (by decide) (by rw [hget]; rfl)
      have hha := has_any K _ k wr (HK.out.below hbr)
      have HSU := hide (survP_succ pe K k)
      have hsl2 := survP_len pe K k
      have hlen : ((survP pe K k).map pendCells).length < 1000000 := by have : pe.length < 1000000 := hpl; simp; omega
      generalize pe.getD k pend0 = p at *
      obtain ⟨po, ps⟩ := p
      generalize hcb : K.contains (k : Int) = cb at hha HSU
      have HHA := hide hha
      clear hha hcb hget
      cases cb
      · have HS2 : Hid (survP pe K (k + 1) = survP pe K k) := hide (by rw [HSU.out]; simp)
        go_wp2_with fail
        refine HHA.out.mono ?_
        rintro e w1 ⟨rfl, hw1⟩
        obtain rfl := hw1
        go_wp2_with fail
        go_roundw
        case rel => exact ⟨k + 1, by omega, by go_num, by rw [HS2.out]; exact hown, hbr⟩
        case measure => simp [intOf]; omega
      · have HS2 : Hid ((survP pe K (k + 1)).map pendCells = (survP pe K k).map pendCells ++ [[.int .i64 po, .string ⟨ps.toArray⟩]]) := hide (by rw [HSU.out]; simp [pendCells])
        have hlen2 : (((survP pe K k).map pendCells).length + 1) * 24 ≤ 140737488355328 := by omega
        have hrl : [Value.int .i64 po, .string ⟨ps.toArray⟩].length = 2 := rfl
        have hone := recOne po ⟨ps.toArray⟩
        have hbs := hbr.size
        generalize (survP pe K k).map pendCells = L0 at *
        go_wp2_with fail
        refine HHA.out.mono ?_
        rintro e w1 ⟨rfl, hw1⟩
        obtain rfl := hw1
        go_wp2_with (at_builtin; refine app_recE infoChange rfl (by decide) Try.underlying41 rfl _ _ rfl w.heap.size _ _ rfl hown [.int .i64 po, .string ⟨ps.toArray⟩] hrl hone _ rfl rfl hlen2 hlen hbs ?_; intro v' w3 hown3 hE3 hob3)
        go_roundw
        case rel =>
          refine ⟨k + 1, by omega, by go_num, by rw [HS2.out]; exact hown3, hbr.trans (hE3.below hbs (fun q hq => ?_))⟩
          rcases hown.form with ⟨rfl, -⟩ | ⟨g, c, cur, rfl, hg, -⟩
          · cases hq
          · have hq : some q = some g := hq
            cases hq; exact hg
        case measure => simp [intOf]; omega
    · obtain rfl : k = pe.length := by omega
      have hPO : ∀ p ∈ survP pe K pe.length, 0 ≤ p.1 ∧ p.1 + p.2.length ≤ n := survP_ok HOK.out.pend K pe.length (Nat.le_refl _)
      have hsl2 := survP_len pe K pe.length
      have HRR : Hid (restR ⟨su, pe, dn, le⟩ K torn = ⟨applyUp (survP pe K pe.length) torn su (survP pe K pe.length).length, [], false, 0⟩) := hide rfl
      generalize survP pe K pe.length = P at hown hPO hsl2 HRR
      obtain ⟨pa, pc, rfl⟩ := own_formE hown (m := P.length) (by simp)
      have hP3 : (P.length : Int) ≤ 9223372036854775807 := by omega
      have HPO := hide hPO
      obtain ⟨ws, rfl⟩ : ∃ W : World, W = wr := ⟨_, rfl⟩
      have HSW := hide (hSB.out.later hbr)
      have HXW := hide hXr
      have HOW := hide hown
      have HSL : Hid (su.length = n) := hide hsl
      have hXgs : X ≠ gs := fun e => (hSB.out.later hbr).neT hXr (by decide) (by rw [e]; rfl)
      have HXG := hide hXgs
      have HOG := hide (fun (g : Nat) (hg : (Value.slice pa P.length pc).ownBlock = some g) => (show g ≠ gs from fun e => by
        obtain ⟨-, cur, hc⟩ := (hSB.out.later hbr).heap (g := gs) rfl
        rcases hown.form with ⟨e1, -⟩ | ⟨g', c', cur', e1, -, e3, -⟩
        · rw [e1] at hg; cases hg
        · rw [e1] at hg
          have hg : some g' = some g := hg
          cases hg
          subst e
          have := hc.symm.trans e3; simp at this))
      clear hXr hLr hown hPO hXgs hsl2
      go_wp2_with fail
      clear d1
      go_loopw [8] (fun i wr => ∃ k : Nat, k ≤ P.length ∧ i = .int .i64 k ∧ OwnU wr 0 (.slice (some ⟨gs, 0, none⟩) n cs) (applyUp P torn su k) ∧ Eff (· = gs) ws wr) (fun i _ => P.length - (intOf i).toNat)
      case atStart => exact ⟨0, by omega, rfl, by have h1 := HSW.out; rw [show (RefD.mk su pe dn le).sure.length = n from HSL.out] at h1; exact h1, Eff.refl _ _⟩
      case round =>
        obtain ⟨k, hk, rfl, hU, hE⟩ := hrel
        have hXr := HXW.out.eff hE HXG.out
        have hOr := HOW.out.eff hE (fun g hg e => HOG.out g hg e)
        by_cases hlt : k < P.length
        · obtain ⟨gp, rfl⟩ : ∃ gp, pa = some ⟨gp, 0, none⟩ := by
            rcases hOr.form with ⟨-, e⟩ | ⟨g, c, cur, e, -⟩
            · have : P = [] := by simpa using e
              subst this; simp at hlt
            · injection e with e; exact ⟨g, e⟩
          have hmem := getD_mem P k (d := pend0) hlt
          have hget : (P.map pendCells).getD k [] = pendCells (P.getD k pend0) := by
            rw [List.getD_eq_getElem?_getD, List.getD_eq_getElem?_getD, List.getElem?_map, List.getElem?_eq_getElem hlt]; rfl
          obtain ⟨hp1, hp2⟩ := HPO.out _ hmem
          have HT : Hid (applyUp P torn su (k + 1) = splice (applyUp P torn su k) (P.getD k pend0).1.toNat (tornS P.length torn k (P.getD k pend0).2)) := hide rfl
          have r0 : wr.cell? ⟨gp, k * 2, none⟩ = some (.int .i64 (P.getD k pend0).1) := hOr.cell k 0 (by simpa using hlt) (by decide) (by rw [hget]; rfl)
          have r1 : wr.cell? ⟨gp, k * 2 + 1, none⟩ = some (.string ⟨(P.getD k pend0).2.toArray⟩) := hOr.cell k 1 (by simpa using hlt) (by decide) (by rw [hget]; rfl)
          have HRL := hide (applyUp_len (torn := torn) HSL.out HPO.out k hk)
          have x0 : wr.cell? ⟨X, 0, none⟩ = some (.slice (some ⟨gs, 0, none⟩) n cs) := by rw [← HSL.out]; exact hXr.cell 0 rfl
          generalize P.getD k pend0 = p at hp1 hp2 HT r0 r1 hmem hget
          obtain ⟨po0, ps⟩ := p
          obtain ⟨po, rfl⟩ : ∃ po : Nat, po0 = po := ⟨po0.toNat, by have : 0 ≤ po0 := hp1; omega⟩
          have hp3 : po + ps.length ≤ n := by have : (po : Int) + ps.length ≤ n := hp2; omega
          have HP3 := hide hp3
          have hpl2 : (ps.length : Int) ≤ 9223372036854775807 := by omega
          have HU := hide hU
          clear hmem hget hp1 hp2 hp3 hU hOr
          by_cases hla : k + 1 = P.length
          · have e1 : ((k : Int) == (P.length : Int) - 1) = true := by simp; omega
            by_cases ht0 : 0 ≤ torn
            · obtain ⟨tn, rfl⟩ : ∃ tn : Nat, torn = tn := ⟨torn.toNat, by omega⟩
              have e2 : decide ((0 : Int) ≤ (tn : Int)) = true := by simp
              by_cases htl : tn < ps.length
              · have e3 : decide ((tn : Int) < (ps.length : Int)) = true := decide_eq_true (by omega)
                have HTT : Hid (tornS P.length tn k ps = ps.take tn) := hide (by unfold tornS; rw [if_pos ⟨hla, ht0⟩, Int.toNat_natCast, Nat.min_eq_left (by omega)])
                have HEX : Hid ((⟨ps.toArray⟩ : ByteArray).extract 0 tn = ⟨(ps.take tn).toArray⟩) := hide (extractE _ _)
                have hbz : ((⟨ps.toArray⟩ : ByteArray).size) = ps.length := basz ps
                clear hla ht0
                go_wp2_with fail
                rw [HEX.out]
                obtain ⟨wq, rfl⟩ : ∃ W : World, W = wr := ⟨_, rfl⟩
                have hbd : Below wq.heap.size wq wq.drew := (Below.refl _ _).drew
                have hap := apply_any 0 gs po ⟨(ps.take tn).toArray⟩ (applyUp P tn su k) n cs wq.drew (HU.out.later hbd) HRL.out.symm (by rw [HRL.out, basz]; have := HP3.out; first | omega | (simp; omega)) (by rw [HRL.out]; exact hn)
                have HAP := hide hap
                clear hap
                go_still_tail 10, (by kernel_rfl)
                change wpList _ _ _ _ _ wq.drew
                go_wp2_with fail
                refine HAP.out.mono ?_
                rintro e w2 ⟨rfl, hv2, hE2⟩
                have hEE := (hE.trans (Eff.of_below hbd _)).trans hE2
                go_wp2_with fail
                go_roundw
                case rel => exact ⟨k + 1, by omega, by go_num, by rw [HT.out, HTT.out]; exact hv2, hEE⟩
                case measure => simp [intOf]; omega
              · have e3 : decide ((tn : Int) < (ps.length : Int)) = false := decide_eq_false (by omega)
                have HTT : Hid (tornS P.length tn k ps = ps) := hide (by unfold tornS; rw [if_pos ⟨hla, ht0⟩, Int.toNat_natCast, List.take_of_length_le (by omega)])
                have hbz : ((⟨ps.toArray⟩ : ByteArray).size) = ps.length := basz ps
                clear hla ht0
                go_wp2_with fail
                obtain ⟨wq, rfl⟩ : ∃ W : World, W = wr := ⟨_, rfl⟩
                have hbd : Below wq.heap.size wq wq.drew := (Below.refl _ _).drew
                have hap := apply_any 0 gs po ⟨(ps).toArray⟩ (applyUp P tn su k) n cs wq.drew (HU.out.later hbd) HRL.out.symm (by rw [HRL.out, basz]; have := HP3.out; first | omega | (simp; omega)) (by rw [HRL.out]; exact hn)
                have HAP := hide hap
                clear hap
                go_still_tail 10, (by kernel_rfl)
                change wpList _ _ _ _ _ wq.drew
                go_wp2_with fail
                refine HAP.out.mono ?_
                rintro e w2 ⟨rfl, hv2, hE2⟩
                have hEE := (hE.trans (Eff.of_below hbd _)).trans hE2
                go_wp2_with fail
                go_roundw
                case rel => exact ⟨k + 1, by omega, by go_num, by rw [HT.out, HTT.out]; exact hv2, hEE⟩
                case measure => simp [intOf]; omega
            · have e2 : decide (0 ≤ torn) = false := decide_eq_false ht0
              have HTT : Hid (tornS P.length torn k ps = ps) := hide (by unfold tornS; rw [if_neg (fun h => ht0 h.2)])
              clear hla ht0
              go_wp2_with fail
              obtain ⟨wq, rfl⟩ : ∃ W : World, W = wr := ⟨_, rfl⟩
              have hbd : Below wq.heap.size wq wq.drew := (Below.refl _ _).drew
              have hap := apply_any 0 gs po ⟨(ps).toArray⟩ (applyUp P torn su k) n cs wq.drew (HU.out.later hbd) HRL.out.symm (by rw [HRL.out, basz]; have := HP3.out; first | omega | (simp; omega)) (by rw [HRL.out]; exact hn)
              have HAP := hide hap
              clear hap
              go_still_tail 10, (by kernel_rfl)
              change wpList _ _ _ _ _ wq.drew
              go_wp2_with fail
              refine HAP.out.mono ?_
              rintro e w2 ⟨rfl, hv2, hE2⟩
              have hEE := (hE.trans (Eff.of_below hbd _)).trans hE2
              go_wp2_with fail
              go_roundw
              case rel => exact ⟨k + 1, by omega, by go_num, by rw [HT.out, HTT.out]; exact hv2, hEE⟩
              case measure => simp [intOf]; omega
          · have e1 : ((k : Int) == (P.length : Int) - 1) = false := by simp; omega
            have HTT : Hid (tornS P.length torn k ps = ps) := hide (by unfold tornS; rw [if_neg (fun h => hla h.1)])
            clear hla
            go_wp2_with fail
            obtain ⟨wq, rfl⟩ : ∃ W : World, W = wr := ⟨_, rfl⟩
            have hbd : Below wq.heap.size wq wq.drew := (Below.refl _ _).drew
            have hap := apply_any 0 gs po ⟨(ps).toArray⟩ (applyUp P torn su k) n cs wq.drew (HU.out.later hbd) HRL.out.symm (by rw [HRL.out, basz]; have := HP3.out; first | omega | (simp; omega)) (by rw [HRL.out]; exact hn)
            have HAP := hide hap
            clear hap
            go_still_tail 10, (by kernel_rfl)
            change wpList _ _ _ _ _ wq.drew
            go_wp2_with fail
            refine HAP.out.mono ?_
            rintro e w2 ⟨rfl, hv2, hE2⟩
            have hEE := (hE.trans (Eff.of_below hbd _)).trans hE2
            go_wp2_with fail
            go_roundw
            case rel => exact ⟨k + 1, by omega, by go_num, by rw [HT.out, HTT.out]; exact hv2, hEE⟩
            case measure => simp [intOf]; omega
        · obtain rfl : k = P.length := by omega
          have g1 := hXr.cell 1 rfl
          have g2 := hXr.cell 2 rfl
          have g3 := hXr.cell 3 rfl
          have k1 := hXr.frozen 1
          have k2 := hXr.frozen 2
          have k3 := hXr.frozen 3
          have HAL := hide (applyUp_len (torn := torn) HSL.out HPO.out P.length (Nat.le_refl _))
          go_wp2_with fail
          go_end0
          have hES : Eff (· = X) wr (((wr.setCell ⟨X, 1, none⟩ (.slice none 0 0)).setCell ⟨X, 2, none⟩ (.bool false)).setCell ⟨X, 3, none⟩ (.int .i64 0)) := ((Eff.setCell _ _ _ _).trans (Eff.setCell _ _ _ _)).trans (Eff.setCell _ _ _ _)
          have e0 : (RefD.mk su pe dn le).sure.length = n := HSL.out
          refine ⟨rfl, .slice (some ⟨gs, 0, none⟩) n cs, .slice none 0 0, ⟨?_, ?_, ?_⟩, ?_, ?_, .inr (fun g hg => by cases hg)⟩
          · rw [HRR.out]
            have := ((hXr.set 1 (.slice none 0 0)).set 2 (.bool false)).set 3 (.int .i64 0)
            rw [e0] at this
            exact this
          · rw [HRR.out]; exact hU.eff hES (fun g hg e => HXG.out (by have hg : some gs = some g := hg; cases hg; exact e.symm))
          · rw [HRR.out]; exact OwnR.nil _ _ _ _
          · exact ((Eff.of_below hbr _).trans (hE.mono fun q _ hq => .inr (.inl (by rw [show q = gs from hq]; rfl)))).trans (hES.mono fun q _ hq => .inl hq)
          · exact .inl rfl
end Go.Proofs.Ytednelejpkchbaa
