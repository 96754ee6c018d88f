/- A disk whose power may be cut: what its calls leave; the states behind writes. Conditions: how it lies in memory. -/
import Derived.Test.YtednelejpkchbaaAppE
import Derived.Test.YtednelejpkchbaaPlK
namespace Go.Proofs.Ytednelejpkchbaa
open Go.RowKit

/-- a disk of n bytes, with power or without, all its blocks from B on -/
structure AnyDisk (n B : Nat) (w : World) (D U V : Nat) (pv : Value) (d : DiskD) : Prop where
  hA : DiskAt w D U V pv d
  left : 0 ≤ d.left ∧ d.left ≤ 9223372036854775807
  dur : d.dur.length = n
  vis : d.vis.length = n
  pend : PendOk d
  hD : B ≤ D
  hU : B ≤ U
  hV : B ≤ V
  hp : ∀ g, pv.ownBlock = some g → B ≤ g
theorem AnyDisk.later {n B : Nat} {w w' : World} {D U V : Nat} {pv : Value} {d : DiskD} (h : AnyDisk n B w D U V pv d) (hb : Below w.heap.size w w') : AnyDisk n B w' D U V pv d :=
  ⟨h.hA.later hb, h.left, h.dur, h.vis, h.pend, h.hD, h.hU, h.hV, h.hp⟩
theorem AnyDisk.eff {S : Nat → Prop} {n B : Nat} {w w' : World} {D U V : Nat} {pv : Value} {d : DiskD} (h : AnyDisk n B w D U V pv d) (hE : Eff S w w') (hn : ∀ k, DSet D U V pv k → ¬ S k) : AnyDisk n B w' D U V pv d :=
  ⟨h.hA.eff hE hn, h.left, h.dur, h.vis, h.pend, h.hD, h.hU, h.hV, h.hp⟩
theorem AnyDisk.low {n B : Nat} {w : World} {D U V : Nat} {pv : Value} {d : DiskD} (h : AnyDisk n B w D U V pv d) : ∀ k, DSet D U V pv k → B ≤ k := fun k hk => by
  rcases hk with rfl | rfl | rfl | hk
  · exact h.hD
  · exact h.hU
  · exact h.hV
  · exact h.hp k hk.symm
theorem OnDisk.any {n B : Nat} {w : World} {D U V : Nat} {pv : Value} {d : DiskD} (h : OnDisk n B w D U V pv d) : AnyDisk n B w D U V pv d :=
  ⟨h.hA, by rw [h.left]; exact ⟨by decide, by decide⟩, h.dur, h.vis, h.pend, h.hD, h.hU, h.hV, h.hp⟩
theorem AnyDisk.on {n B : Nat} {w : World} {D U V : Nat} {pv : Value} {d : DiskD} (h : AnyDisk n B w D U V pv d) (h1 : d.off = false) (h2 : d.left = 0) : OnDisk n B w D U V pv d :=
  ⟨h.hA, h1, h2, h.dur, h.vis, h.pend, h.hD, h.hU, h.hV, h.hp⟩
/-- the call returns r; the disk is d' now -/
def AnyQ (r : Int) (d' : DiskD) (n B : Nat) (D U V : Nat) (pv : Value) (w : World) (e : Ending) (w' : World) : Prop :=
  e = .returned (.int .i64 r) ∧ ∃ pv', AnyDisk n B w' D U V pv' d' ∧ Eff (DSet D U V pv) w w' ∧ (pv'.ownBlock = pv.ownBlock ∨ ∀ g, pv'.ownBlock = some g → w.heap.size ≤ g)
theorem any_of {r : Int} {d' : DiskD} {n B : Nat} {D U V : Nat} {pv : Value} {w : World} {e : Ending} {w' : World} (h : DiskQ r d' D U V pv w e w') (hB : B ≤ w.heap.size) {d : DiskD} (hd : AnyDisk n B w D U V pv d)
    (h1 : 0 ≤ d'.left ∧ d'.left ≤ 9223372036854775807) (h2 : d'.dur.length = n) (h3 : d'.vis.length = n) (h4 : PendOk d') : AnyQ r d' n B D U V pv w e w' := by
  obtain ⟨he, pv', hA, hE, hO⟩ := h
  exact ⟨he, pv', ⟨hA, h1, h2, h3, h4, hd.hD, hd.hU, hd.hV, hp_of hB hd.hp hO⟩, hE, hO⟩
section
variable {n B D U V : Nat} {pv : Value} {d : DiskD} {w : World}
theorem usedD_left (h : 0 ≤ d.left ∧ d.left ≤ 9223372036854775807) : 0 ≤ (usedD d).left ∧ (usedD d).left ≤ 9223372036854775807 := by
  unfold usedD; split
  · exact h
  · show 0 ≤ d.left - 1 ∧ d.left - 1 ≤ _; omega
theorem write_w (o : Nat) (s : ByteArray) (h : AnyDisk n B w D U V pv d) (hoff : d.off = false) (hB : B ≤ w.heap.size) (hn : n ≤ 4194304) (ho : o + s.size ≤ n) (hpl : d.pend.length < 1000000) :
    Calls Try.prog 21 #[.pointer (some ⟨D, 0, none⟩), .int .i64 o, .string s] w (AnyQ 0 (usedD (putD d o s.data.toList)) n B D U V pv w) := by
  have hss : s.data.toList.length = s.size := by simp
  refine (write_in D U V pv d o s w h.hA hoff (by rw [h.dur]; exact hn) (by rw [h.vis, h.dur]) h.left.1 h.left.2 hpl (by rw [h.dur]; exact ho)).mono fun e w' hq => ?_
  refine any_of hq hB h (usedD_left (d := putD d o s.data.toList) h.left) (by rw [usedD_dur]; exact h.dur) (by rw [usedD_vis]; exact (length_splice _ _ _ (by rw [h.vis, hss]; exact ho)).trans h.vis) ?_
  intro p hp
  have hk := pend_put h.pend h.dur (o := o) (s := s.data.toList) (by rw [hss]; exact ho) p (by rw [usedD_pend] at hp; exact hp)
  rw [usedD_dur]; exact hk
theorem write_dead (o : Int) (s : ByteArray) (h : AnyDisk n B w D U V pv d) (hoff : d.off = true) (hB : B ≤ w.heap.size) :
    Calls Try.prog 21 #[.pointer (some ⟨D, 0, none⟩), .int .i64 o, .string s] w (AnyQ 361 d n B D U V pv w) :=
  (write_off D U V pv d o s w h.hA hoff).mono fun _ _ hq => any_of hq hB h h.left h.dur h.vis h.pend
theorem sync_w (h : AnyDisk n B w D U V pv d) (hoff : d.off = false) (hB : B ≤ w.heap.size) :
    Calls Try.prog 23 #[.pointer (some ⟨D, 0, none⟩)] w (AnyQ 0 (syncD d) n B D U V pv w) :=
  (sync_on D U V pv d w h.hA hoff (by rw [h.vis, h.dur])).mono fun _ _ hq => any_of hq hB h h.left h.vis h.vis (fun p hp => by cases hp)
theorem sync_dead (h : AnyDisk n B w D U V pv d) (hoff : d.off = true) (hB : B ≤ w.heap.size) :
    Calls Try.prog 23 #[.pointer (some ⟨D, 0, none⟩)] w (AnyQ 361 d n B D U V pv w) :=
  (sync_off D U V pv d w h.hA hoff).mono fun _ _ hq => any_of hq hB h h.left h.dur h.vis h.pend
theorem cut_w (c : Int) (h : AnyDisk n B w D U V pv d) (hoff : d.off = false) (hB : B ≤ w.heap.size) (hc : 0 ≤ c ∧ c ≤ 9223372036854775807) :
    Calls Try.prog 24 #[.pointer (some ⟨D, 0, none⟩), .int .i64 c] w (AnyQ 0 ⟨decide (c = 0), c, d.dur, d.vis, d.pend⟩ n B D U V pv w) :=
  (cut_on D U V pv d c w h.hA hoff hc.1).mono fun _ _ hq => any_of hq hB h hc h.dur h.vis h.pend
theorem cut_dead (c : Int) (h : AnyDisk n B w D U V pv d) (hoff : d.off = true) (hB : B ≤ w.heap.size) :
    Calls Try.prog 24 #[.pointer (some ⟨D, 0, none⟩), .int .i64 c] w (AnyQ 361 d n B D U V pv w) :=
  (cut_off D U V pv d c w h.hA hoff).mono fun _ _ hq => any_of hq hB h h.left h.dur h.vis h.pend
theorem cut_minus (c : Int) (h : AnyDisk n B w D U V pv d) (hoff : d.off = false) (hB : B ≤ w.heap.size) (hc : c < 0) :
    Calls Try.prog 24 #[.pointer (some ⟨D, 0, none⟩), .int .i64 c] w (AnyQ 2 d n B D U V pv w) :=
  (cut_neg D U V pv d c w h.hA hoff hc).mono fun _ _ hq => any_of hq hB h h.left h.dur h.vis h.pend
theorem crash_w {K : List Int} {kv : Value} {torn : Int} (h : AnyDisk n B w D U V pv d) (hB : B ≤ w.heap.size) (hn : n ≤ 4194304) (hpl : d.pend.length < 1000000) (hk : IntsAt w kv K) (hkl : K.length < 1000000) (ht : i64B torn) :
    Calls Try.prog 25 #[.pointer (some ⟨D, 0, none⟩), kv, .int .i64 torn] w (OnQ 0 (crashD d K torn) n B D U V pv w) := by
  refine (crash_any D U V pv d K kv torn w h.hA (by rw [h.dur]; exact hn) (by rw [h.vis, h.dur]) hpl h.pend hk hkl ht).mono ?_
  rintro e w' ⟨he, pv', hA, hE, hO⟩
  have hlen : (crashF d K torn).length = n := by
    unfold crashF
    rw [crashUp_len h.pend (ordF_in _ _) _ (Nat.le_refl _)]; exact h.dur
  exact ⟨he, pv', ⟨hA, rfl, rfl, hlen, hlen, fun p hp => (by cases hp), h.hD, h.hU, h.hV, hp_of hB h.hp hO⟩, hE, hO⟩
end
/-- k writes, none of them synced -/
def runC (n : Nat) (l : List WPar) : Nat → DiskD
  | 0 => disk0 n
  | k + 1 => putD (runC n l k) (offN n (l.getD k wp0)) (strN n (l.getD k wp0)).data.toList
theorem runC_pend (n : Nat) (l : List WPar) : ∀ k, (runC n l k).pend.length = k
  | 0 => by simp [runC, disk0]
  | k + 1 => by simp [runC, putD, runC_pend n l k]
theorem runC_dur (n : Nat) (l : List WPar) : ∀ k, (runC n l k).dur = List.replicate n 0
  | 0 => by simp [runC, disk0]
  | k + 1 => by simp [runC, putD, runC_dur n l k]
theorem runC_off (n : Nat) (l : List WPar) : ∀ k, (runC n l k).off = false ∧ (runC n l k).left = 0
  | 0 => by simp [runC, disk0]
  | k + 1 => by simp [runC, putD, runC_off n l k]
theorem runC_vis (n : Nat) (l : List WPar) : ∀ k, (runC n l k).vis = replay (runC n l k).dur (runC n l k).pend
  | 0 => rfl
  | k + 1 => by
    have ih := runC_vis n l k
    show splice (runC n l k).vis _ _ = replay (runC n l k).dur ((runC n l k).pend ++ [((offN n (l.getD k wp0) : Int), (strN n (l.getD k wp0)).data.toList)])
    rw [replay_snoc, ← ih]; rfl
/-- the disk behind k calls of Write when the power is lost behind c of them -/
def cutK (n : Nat) (l : List WPar) (c k : Nat) : DiskD := ⟨decide (c ≤ k), ((c - k : Nat) : Int), (runC n l (min k c)).dur, (runC n l (min k c)).vis, (runC n l (min k c)).pend⟩
theorem cutK_dead {n : Nat} {l : List WPar} {c k : Nat} (h : c ≤ k) : cutK n l c (k + 1) = cutK n l c k := by
  unfold cutK
  rw [Nat.min_eq_right (show c ≤ k + 1 by omega), Nat.min_eq_right h, decide_eq_true h, decide_eq_true (show c ≤ k + 1 by omega), show c - (k + 1) = 0 by omega, show c - k = 0 by omega]
theorem cutK_live {n : Nat} {l : List WPar} {c k : Nat} (h : k < c) : cutK n l c (k + 1) = usedD (putD (cutK n l c k) (offN n (l.getD k wp0)) (strN n (l.getD k wp0)).data.toList) := by
  have e : ((c - k : Nat) : Int) ≠ 0 := by omega
  have e1 : ((c - k : Nat) : Int) - 1 = ((c - (k + 1) : Nat) : Int) := by omega
  have e2 : decide (((c - k : Nat) : Int) - 1 = 0) = decide (c ≤ k + 1) := by
    by_cases hh : c ≤ k + 1
    · rw [decide_eq_true hh, decide_eq_true (by omega)]
    · rw [decide_eq_false hh, decide_eq_false (by omega)]
  have e3 : usedD (putD (cutK n l c k) (offN n (l.getD k wp0)) (strN n (l.getD k wp0)).data.toList) = ⟨decide (((c - k : Nat) : Int) - 1 = 0), ((c - k : Nat) : Int) - 1, (runC n l (min k c)).dur, splice (runC n l (min k c)).vis (offN n (l.getD k wp0)) (strN n (l.getD k wp0)).data.toList, (runC n l (min k c)).pend ++ [((offN n (l.getD k wp0) : Int), (strN n (l.getD k wp0)).data.toList)]⟩ := if_neg e
  rw [e3, e2, e1, Nat.min_eq_left (show k ≤ c by omega)]
  unfold cutK
  rw [Nat.min_eq_left (show k + 1 ≤ c by omega)]
  rfl
end Go.Proofs.Ytednelejpkchbaa
