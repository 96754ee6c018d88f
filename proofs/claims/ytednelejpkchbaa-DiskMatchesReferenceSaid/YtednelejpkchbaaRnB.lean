/- The reference's disk: walks of New, Visible, Sync, Cut. Conditions: how it lies in memory; sizes. -/
import Derived.Test.YtednelejpkchbaaRnA
import Derived.StillTailTactics
namespace Go.Proofs.Ytednelejpkchbaa
open Go.RowKit

def ref0 (n : Nat) : RefD := ⟨List.replicate n 0, [], false, 0⟩
theorem ref0_ok {n : Nat} : RefOk n (ref0 n) := ⟨by simp [ref0], fun p hp => (by cases hp), by show (0 : Int) ≤ 0 ∧ (0 : Int) ≤ 9223372036854775807; omega⟩
set_option maxRecDepth 20000 in
set_option maxHeartbeats 1000000 in
theorem rnew_any (m : Nat) (w : World) (h1 : 1 ≤ m) (h2 : m ≤ 4194304) : Calls Try.prog 18 #[.int .i64 m] w
    (fun e w' => ∃ (X g : Nat), e = .returned (.tuple #[.pointer (some ⟨X, 0, none⟩), .int .i64 0]) ∧ w.heap.size ≤ X ∧ w.heap.size ≤ g ∧ RefAt w' X (.slice (some ⟨g, 0, none⟩) m m) (.slice none 0 0) (ref0 m) ∧ Below w.heap.size w w') := by
  have e1 : decide ((m : Int) < 1) = false := decide_eq_false (by omega)
  have e2 : decide (4194304 < (m : Int)) = false := decide_eq_false (by omega)
  have hmk := @mkBytes m (by omega)
  go_enter Try.func18, Try.ntmps18
  go_wp2_with fail
  generalize hX1 : World.alloc w _ = X1
  have bX1 : Below w.heap.size w X1 := by rw [← hX1]; exact bal w _
  have bS : Blk X1 w.heap.size (bytesV (List.replicate m 0)) 5 := by rw [← hX1]; exact Blk.newA w _ rfl
  have zX : X1.heap.size = w.heap.size + 1 := by rw [← hX1]; simp
  rw [← zX]
  generalize hX2 : World.alloc X1 _ = X2
  have bX2 : Below X1.heap.size X1 X2 := by rw [← hX2]; exact bal X1 _
  have bB : Blk X2 X1.heap.size [.slice (some ⟨w.heap.size, 0, none⟩) m m, .slice none 0 0, .bool false, .int .i64 0] 43 := by rw [← hX2]; exact Blk.newA X1 _ rfl
  have hS := OwnU.of (B := 0) (bS.later bX2) (Nat.zero_le _) (by simp; omega)
  rw [List.length_replicate] at hS
  clear hX1 hX2
  go_ret2
  exact ⟨X1.heap.size, w.heap.size, rfl, by omega, Nat.le_refl _, ⟨bB, hS, OwnR.nil _ _ _ _⟩, below2 bX1 bX2⟩
theorem info_lit (w : World) {B : Nat} (hB : B ≤ w.heap.size) : OwnU (w.alloc (.cells #[] 5)) B (.slice (some ⟨w.heap.size, 0, none⟩) 0 0) [] :=
  World.ownsRow_lit w #[] 0 hB (by unfold maxLen; omega) (by simp)
/-- the call returns a new slice of bytes -/
def NewU (l : List UInt8) (w : World) (e : Ending) (w' : World) : Prop := ∃ v, e = .returned v ∧ OwnU w' w.heap.size v l ∧ Below w.heap.size w w'
set_option maxRecDepth 20000 in
set_option maxHeartbeats 1000000 in
theorem visible_any (n X : Nat) (sv lv : Value) (r : RefD) (w : World) (h : RefAt w X sv lv r) (hok : RefOk n r) (hn1 : 1 ≤ n) (hn : n ≤ 4194304) (hpl : r.pend.length < 1000000) :
    Calls Try.prog 34 #[.pointer (some ⟨X, 0, none⟩)] w (NewU (replay r.sure r.pend) w) := by
  obtain ⟨su, pe, dn, le⟩ := r
  obtain ⟨hX, hS, hL⟩ := id h
  have hsl : su.length = n := hok.sure
  obtain ⟨gs, cs, rfl, -, hcs1, hcs2⟩ := hS.form (by show 0 < su.length; omega)
  obtain ⟨la, lc, rfl⟩ : ∃ a c, lv = .slice a pe.length c := by
    rcases hL.form with ⟨rfl, e⟩ | ⟨gl, c, cur, e, -⟩
    · have : pe = [] := by simpa using e
      subst this; exact ⟨none, 0, rfl⟩
    · exact ⟨some ⟨gl, 0, none⟩, c, by simpa using e⟩
  have c0 : w.cell? ⟨X, 0, none⟩ = some (.slice (some ⟨gs, 0, none⟩) su.length cs) := hX.cell 0 rfl
  have c0' := keep (bal w (.cells #[] 5)) c0
  have HS := hide hS
  have HSL := hide hsl
  have HOK := hide hok
  have HRP := hide hpl
  have HA := hide h
  have hlen : ([] : List UInt8).length + su.length < 100000000 := by simp; omega
  clear hX hS hL hsl hok hpl h
  go_enter Try.func34, Try.ntmps34
  go_wp2_with (at_builtin; refine app_bytesE rfl _ _ rfl w.heap.size (.slice (some ⟨w.heap.size, 0, none⟩) 0 0) [] rfl (info_lit w (Nat.le_refl _)) gs su.length cs su rfl rfl (fun j hj => keep (bal w _) (HS.out.cell j hj)) hlen (by simp) ?_; intro v w1 hv hE1 hob1)
  rw [List.nil_append] at hv
  have hb1 : Below w.heap.size w w1 := (bal w _).trans (hE1.below (by simp) (fun q hq => by have : q = w.heap.size := Option.some.inj hq; omega))
  obtain ⟨g, c, rfl, hgw, hgc, hgc2⟩ := hv.form (by rw [show su.length = n from HSL.out]; omega)
  rw [show su.length = n from HSL.out] at hv hgc
  rw [show su.length = n from HSL.out]
  clear hE1 hob1 c0 c0'
  go_wp2_with fail
  go_loopw [4] (fun i wr => ∃ k : Nat, k ≤ pe.length ∧ i = .int .i64 k ∧ OwnU wr w.heap.size (.slice (some ⟨g, 0, none⟩) n c) (replay su (pe.take k)) ∧ Below w.heap.size w wr) (fun i _ => pe.length - (intOf i).toNat)
  case atStart => exact ⟨0, by omega, rfl, hv, hb1⟩
  case round =>
    obtain ⟨k, hk, rfl, hv, hbr⟩ := hrel
    have hAr := HA.out.later hbr
    have d1 : wr.cell? ⟨X, 1, none⟩ = some (.slice la pe.length lc) := hAr.hX.cell 1 rfl
    have hpl3 : (pe.length : Int) ≤ 9223372036854775807 := by have : pe.length < 1000000 := HRP.out; omega
    by_cases hlt : k < pe.length
    · have hLr : OwnR wr 0 80 2 (.slice la pe.length lc) (pe.map pendCells) := hAr.hL
      obtain ⟨gp, rfl⟩ : ∃ gp, la = some ⟨gp, 0, none⟩ := by
        rcases hLr.form with ⟨-, e⟩ | ⟨g, c, cur, e, -⟩
        · have : pe = [] := by simpa using e
          subst this; simp at hlt
        · injection e with e; exact ⟨g, e⟩
      have hmem := getD_mem pe k (d := pend0) hlt
      have hget : (pe.map pendCells).getD k [] = pendCells (pe.getD k pend0) := by
        rw [List.getD_eq_getElem?_getD, List.getD_eq_getElem?_getD, List.getElem?_map, List.getElem?_eq_getElem hlt]; rfl
      obtain ⟨hp1, hp2⟩ := HOK.out.pend _ hmem
      have HT : Hid (replay su (pe.take (k + 1)) = splice (replay su (pe.take k)) (pe.getD k pend0).1.toNat (pe.getD k pend0).2) := hide (by rw [take_succ' pe k pend0 hlt, replay_snoc])
      have r0 : wr.cell? ⟨gp, k * 2, none⟩ = some (.int .i64 (pe.getD k pend0).1) := hLr.cell k 0 (by simpa using hlt) (by decide) (by rw [hget]; rfl)
      have r1 : wr.cell? ⟨gp, k * 2 + 1, none⟩ = some (.string ⟨(pe.getD k pend0).2.toArray⟩) := hLr.cell k 1 (by simpa using hlt) (by decide) (by rw [hget]; rfl)
      have HRL : Hid ((replay su (pe.take k)).length = n) := hide (replay_len _ _ HOK.out.sure (fun q hq => HOK.out.pend q (List.mem_of_mem_take hq)))
      generalize pe.getD k pend0 = p at hp1 hp2 HT r0 r1 hmem hget
      obtain ⟨po0, ps⟩ := p
      obtain ⟨po, rfl⟩ : ∃ po : Nat, po0 = po := ⟨po0.toNat, by have : 0 ≤ po0 := hp1; omega⟩
      have hp3 : po + ps.length ≤ n := by have : (po : Int) + ps.length ≤ n := hp2; omega
      have HP3 := hide hp3
      have hbd : Below wr.heap.size wr wr.drew := (Below.refl _ _).drew
      have hap := apply_any w.heap.size g po ⟨ps.toArray⟩ (replay su (pe.take k)) n c wr.drew (hv.later hbd) HRL.out.symm (by rw [HRL.out, basz]; exact hp3) (by rw [HRL.out]; exact hn)
      have HAP := hide hap
      clear hAr hLr hmem hget hp1 hp2 hp3 hap
      go_wp2_with fail
      go_still_tail 17, (by kernel_rfl)
      change wpList _ _ _ _ _ wr.drew
      go_wp2_with fail
      refine HAP.out.mono ?_
      rintro e w2 ⟨rfl, hv2, hE2⟩
      have hbr2 := (below2 hbr hbd).trans (hE2.below (below2 hbr hbd).size (fun q hq => by rw [show q = g from hq]; exact hgw))
      go_wp2_with fail
      go_roundw
      case rel => exact ⟨k + 1, by omega, by go_num, by rw [HT.out]; exact hv2, hbr2⟩
      case measure => simp [intOf]; omega
    · obtain rfl : k = pe.length := by omega
      rw [List.take_length] at hv
      have HRL : Hid ((replay su pe).length = n) := hide (replay_len _ _ HOK.out.sure HOK.out.pend)
      go_wp2_with fail
      go_ret
      exact ⟨_, rfl, hv, hbr⟩
end Go.Proofs.Ytednelejpkchbaa
