/- Both disks beside one another, and what each call does to both. Conditions: how they lie in memory; sizes. -/
import Derived.Test.YtednelejpkchbaaLnA
import Derived.Test.YtednelejpkchbaaRnD
import Derived.Test.YtednelejpkchbaaLkK
namespace Go.Proofs.Ytednelejpkchbaa
open Go.RowKit

def toR (d : DiskD) : RefD := ⟨d.dur, d.pend, d.off, d.left⟩
structure Both (n B : Nat) (w : World) (D U V : Nat) (pv : Value) (X : Nat) (sv lv : Value) (d : DiskD) (r : RefD) : Prop where
  A : AnyDisk n B w D U V pv d
  R : RefAt w X sv lv r
  ap : ∀ x, DSet D U V pv x → ¬ RSet X sv lv x
  low : ∀ x, RSet X sv lv x → B ≤ x
section
variable {n B D U V X : Nat} {pv sv lv : Value} {d : DiskD} {r : RefD} {w : World}
theorem any_lt (h : AnyDisk n B w D U V pv d) : ∀ k, DSet D U V pv k → k < w.heap.size := by
  rintro k (rfl | rfl | rfl | hk)
  · exact h.hA.hD.lt
  · exact h.hA.hU.lt
  · exact h.hA.hV.lt
  · exact h.hA.hP.ltO hk.symm
theorem Both.later {w' : World} (h : Both n B w D U V pv X sv lv d r) (hb : Below w.heap.size w w') : Both n B w' D U V pv X sv lv d r :=
  ⟨h.A.later hb, h.R.later hb, h.ap, h.low⟩
theorem Both.disk {w' : World} {pv' : Value} {d' : DiskD} (h : Both n B w D U V pv X sv lv d r) (hA : AnyDisk n B w' D U V pv' d') (hE : Eff (DSet D U V pv) w w') (ho : pv'.ownBlock = pv.ownBlock ∨ ∀ g, pv'.ownBlock = some g → w.heap.size ≤ g) :
    Both n B w' D U V pv' X sv lv d' r :=
  ⟨hA, h.R.eff hE (fun k hk hs => h.ap k hs hk), apart_step h.ap (fun k hk => h.R.lt k hk) ho, h.low⟩
theorem Both.ref {w' : World} {sv' lv' : Value} {r' : RefD} (h : Both n B w D U V pv X sv lv d r) (hB : B ≤ w.heap.size) (hR : RefAt w' X sv' lv' r') (hE : Eff (RSet X sv lv) w w') (h1 : sv'.ownBlock = sv.ownBlock ∨ ∀ g, sv'.ownBlock = some g → w.heap.size ≤ g) (h2 : lv'.ownBlock = lv.ownBlock ∨ ∀ g, lv'.ownBlock = some g → w.heap.size ≤ g) :
    Both n B w' D U V pv X sv' lv' d r' := by
  refine ⟨h.A.eff hE h.ap, hR, ?_, ?_⟩
  · rintro x hx (hk | hk | hk)
    · exact h.ap x hx (.inl hk)
    · rcases h1 with e | e
      · exact h.ap x hx (.inr (.inl (by rw [← e]; exact hk)))
      · have h3 := e x hk.symm
        have h4 := any_lt h.A x hx
        omega
    · rcases h2 with e | e
      · exact h.ap x hx (.inr (.inr (by rw [← e]; exact hk)))
      · have h3 := e x hk.symm
        have h4 := any_lt h.A x hx
        omega
  · rintro x (hk | hk | hk)
    · exact h.low x (.inl hk)
    · rcases h1 with e | e
      · exact h.low x (.inr (.inl (by rw [← e]; exact hk)))
      · have h3 := e x hk.symm; omega
    · rcases h2 with e | e
      · exact h.low x (.inr (.inr (by rw [← e]; exact hk)))
      · have h3 := e x hk.symm; omega
theorem AnyDisk.ok (h : AnyDisk n B w D U V pv d) : RefOk n (toR d) := ⟨h.dur, fun p hp => by have := h.pend p hp; rw [h.dur] at this; exact this, h.left⟩
/-- the calls of both return k, and leave d' -/
structure CallB (f g : FuncId) (args : List Value) (k : Int) (d d' : DiskD) (n B : Nat) : Prop where
  disk : ∀ (D U V : Nat) (pv : Value) (W : World), AnyDisk n B W D U V pv d → B ≤ W.heap.size → Calls Try.prog f (Value.pointer (some ⟨D, 0, none⟩) :: args).toArray W (AnyQ k d' n B D U V pv W)
  ref : ∀ (X : Nat) (sv lv : Value) (W : World), RefAt W X sv lv (toR d) → Calls Try.prog g (Value.pointer (some ⟨X, 0, none⟩) :: args).toArray W (RefQ k (toR d') X sv lv W)
  vis : d.vis = replay d.dur d.pend → d'.vis = replay d'.dur d'.pend
  few : d'.pend.length ≤ d.pend.length + 1
end
theorem leftR_used {d : DiskD} (h0 : 0 ≤ d.left) (hoff : d.off = false) (o : Nat) (s : List UInt8) : leftR (putR (toR d) o s) = toR (usedD (putD d o s)) := by
  unfold leftR usedD
  by_cases h : d.left = 0
  · rw [if_neg (show ¬ 0 < (putR (toR d) o s).left by show ¬ 0 < d.left; omega), if_pos (show (putD d o s).left = 0 from h)]; rfl
  · rw [if_pos (show 0 < (putR (toR d) o s).left by show 0 < d.left; omega), if_neg (show ¬ (putD d o s).left = 0 from h)]
    show RefD.mk d.dur (d.pend ++ [((o : Int), s)]) (if d.left - 1 = 0 then true else d.off) (d.left - 1) = RefD.mk d.dur (d.pend ++ [((o : Int), s)]) (decide (d.left - 1 = 0)) (d.left - 1)
    rw [hoff]
    by_cases h1 : d.left - 1 = 0
    · rw [if_pos h1, decide_eq_true h1]
    · rw [if_neg h1, decide_eq_false h1]
theorem write_both {n B : Nat} {d : DiskD} (hA : ∃ W D U V pv, AnyDisk n B W D U V pv d) (hn1 : 1 ≤ n) (hn : n ≤ 4194304) (off : Int) (s : ByteArray) (h64 : i64B off) (hs : (s.size : Int) ≤ 4194304) (hpl : d.pend.length < 1000000) :
    ∃ k d', CallB 21 30 [.int .i64 off, .string s] k d d' n B := by
  obtain ⟨W0, D0, U0, V0, pv0, hA0⟩ := hA
  have hok := hA0.ok
  by_cases hd : d.off = true
  · exact ⟨361, d, fun D U V pv W h hB => write_dead off s h hd hB, fun X sv lv W h => rwrite_down X sv lv (toR d) off s W h hd, fun h => h, Nat.le_succ _⟩
  · have hd' : d.off = false := by simpa using hd
    by_cases hin : insideB n off s.size = true
    · have hin' : 0 ≤ off ∧ off + s.size ≤ n := by unfold insideB at hin; simp at hin; omega
      obtain ⟨o, rfl⟩ : ∃ o : Nat, off = o := ⟨off.toNat, by omega⟩
      refine ⟨0, usedD (putD d o s.data.toList), fun D U V pv W h hB => write_w o s h hd' hB hn (by omega) hpl, fun X sv lv W h => ?_, fun h => ?_, ?_⟩
      · rw [← leftR_used hA0.left.1 hd']
        exact rwrite_in n X sv lv (toR d) o s W h hok hn1 hn hd' (by omega) hpl
      · rw [usedD_vis, usedD_dur, usedD_pend]
        show splice d.vis o s.data.toList = replay d.dur (d.pend ++ [((o : Int), s.data.toList)])
        rw [replay_snoc, ← h]; rfl
      · rw [usedD_pend]; simp [putD]
    · have hin' : insideB n off s.size = false := by simpa using hin
      refine ⟨360, d, fun D U V pv W h hB => ?_, fun X sv lv W h => rwrite_out n X sv lv (toR d) off s W h hok hn1 hn hd' h64 (by omega) hin', fun h => h, Nat.le_succ _⟩
      refine (write_out D U V pv d off s W h.hA hd' (by rw [h.dur]; exact hn) h64 (by omega) (by rw [h.dur]; exact hin')).mono fun _ _ hq => any_of hq hB h h.left h.dur h.vis h.pend
theorem cut_both {n B : Nat} {d : DiskD} (c : Int) (h64 : i64B c) : ∃ k d', CallB 24 32 [.int .i64 c] k d d' n B := by
  by_cases hd : d.off = true
  · exact ⟨361, d, fun D U V pv W h hB => cut_dead c h hd hB, fun X sv lv W h => rcut_down X sv lv (toR d) c W h hd, fun h => h, Nat.le_succ _⟩
  · have hd' : d.off = false := by simpa using hd
    by_cases hc : c < 0
    · exact ⟨2, d, fun D U V pv W h hB => cut_minus c h hd' hB hc, fun X sv lv W h => rcut_neg X sv lv (toR d) c W h hd' hc, fun h => h, Nat.le_succ _⟩
    · exact ⟨0, ⟨decide (c = 0), c, d.dur, d.vis, d.pend⟩, fun D U V pv W h hB => cut_w c h hd' hB ⟨by omega, h64.2⟩, fun X sv lv W h => rcut_on X sv lv (toR d) c W h hd' (by omega), fun h => h, Nat.le_succ _⟩
theorem sync_both {n B : Nat} {d : DiskD} (hA : ∃ W D U V pv, AnyDisk n B W D U V pv d) (hn1 : 1 ≤ n) (hn : n ≤ 4194304) (hpl : d.pend.length < 1000000) (hv : d.vis = replay d.dur d.pend) :
    ∃ k d', CallB 23 31 [] k d d' n B := by
  obtain ⟨W0, D0, U0, V0, pv0, hA0⟩ := hA
  have hok := hA0.ok
  by_cases hd : d.off = true
  · exact ⟨361, d, fun D U V pv W h hB => sync_dead h hd hB, fun X sv lv W h => rsync_down X sv lv (toR d) W h hd, fun h => h, Nat.le_succ _⟩
  · have hd' : d.off = false := by simpa using hd
    refine ⟨0, syncD d, fun D U V pv W h hB => sync_w h hd' hB, fun X sv lv W h => ?_, fun _ => rfl, Nat.zero_le _⟩
    have := rsync_on n X sv lv (toR d) W h hok hn1 hn hpl hd'
    have e : toR (syncD d) = ⟨replay d.dur d.pend, [], d.off, d.left⟩ := by unfold toR syncD; rw [hv]
    rw [e]; exact this
/-- both return the same string and number -/
theorem read_both {n B : Nat} {d : DiskD} (hA : ∃ W D U V pv, AnyDisk n B W D U V pv d) (hn1 : 1 ≤ n) (hn : n ≤ 4194304) (hpl : d.pend.length < 1000000) (hv : d.vis = replay d.dur d.pend) (off k : Int) (h1 : i64B off) :
    ∃ s e, (∀ D U V pv W, AnyDisk n B W D U V pv d → Calls Try.prog 14 #[.pointer (some ⟨D, 0, none⟩), .int .i64 off, .int .i64 k] W (StrQ s e W)) ∧
      (∀ X sv lv W, RefAt W X sv lv (toR d) → Calls Try.prog 20 #[.pointer (some ⟨X, 0, none⟩), .int .i64 off, .int .i64 k] W (RStrQ s e W)) := by
  obtain ⟨W0, D0, U0, V0, pv0, hA0⟩ := hA
  have hok := hA0.ok
  by_cases hd : d.off = true
  · exact ⟨⟨#[]⟩, 361, fun D U V pv W h => read_off D U V pv d off k W h.hA hd, fun X sv lv W h => rread_down X sv lv (toR d) off k W h hd⟩
  · have hd' : d.off = false := by simpa using hd
    by_cases hin : insideB n off k = true
    · have hin' : 0 ≤ off ∧ 0 ≤ k ∧ off + k ≤ n := by unfold insideB at hin; simp at hin; omega
      obtain ⟨o, rfl⟩ : ∃ o : Nat, off = o := ⟨off.toNat, by omega⟩
      obtain ⟨q, rfl⟩ : ∃ q : Nat, k = q := ⟨k.toNat, by omega⟩
      refine ⟨⟨((d.vis.drop o).take q).toArray⟩, 0, fun D U V pv W h => read_in D U V pv d o q W h.hA hd' (by rw [h.dur]; exact hn) (by rw [h.vis, h.dur]) (by rw [h.dur]; omega), fun X sv lv W h => ?_⟩
      rw [hv]
      exact rread_in n X sv lv (toR d) o q W h hok hn1 hn hpl hd' (by omega)
    · have hin' : insideB n off k = false := by simpa using hin
      exact ⟨⟨#[]⟩, 360, fun D U V pv W h => read_out D U V pv d off k W h.hA hd' (by rw [h.dur]; exact hn) h1 (by rw [h.dur]; exact hin'), fun X sv lv W h => rread_out n X sv lv (toR d) off k W h hok hn1 hn hd' h1 hin'⟩
theorem toR_crash (d : DiskD) (K : List Int) (torn : Int) : restR (toR d) K torn = toR (crashD d K torn) := by
  unfold restR toR crashD
  rw [crash_apply]
end Go.Proofs.Ytednelejpkchbaa
