/- A disk in use, with power that is not cut: what its calls leave. Conditions: how it lies in memory. -/
import Derived.Test.YtednelejpkchbaaLkD
namespace Go.Proofs.Ytednelejpkchbaa
open Go.RowKit

/-- a disk of n bytes with power, all its blocks from B on -/
structure OnDisk (n B : Nat) (w : World) (D U V : Nat) (pv : Value) (d : DiskD) : Prop where
  hA : DiskAt w D U V pv d
  off : d.off = false
  left : d.left = 0
  dur : d.dur.length = n
  vis : d.vis.length = n
  pend : PendOk d
  hD : B ≤ D
  hU : B ≤ U
  hV : B ≤ V
  hp : ∀ g, pv.ownBlock = some g → B ≤ g
theorem OnDisk.later {n B : Nat} {w w' : World} {D U V : Nat} {pv : Value} {d : DiskD} (h : OnDisk n B w D U V pv d) (hb : Below w.heap.size w w') : OnDisk n B w' D U V pv d :=
  ⟨h.hA.later hb, h.off, h.left, h.dur, h.vis, h.pend, h.hD, h.hU, h.hV, h.hp⟩
theorem OnDisk.low {n B : Nat} {w : World} {D U V : Nat} {pv : Value} {d : DiskD} (h : OnDisk n B w D U V pv d) : ∀ k, DSet D U V pv k → B ≤ k := fun k hk => by
  rcases hk with rfl | rfl | rfl | hk
  · exact h.hD
  · exact h.hU
  · exact h.hV
  · exact h.hp k hk.symm
theorem DiskAt.eff {S : Nat → Prop} {w w' : World} {D U V : Nat} {pv : Value} {d : DiskD} (h : DiskAt w D U V pv d) (hE : Eff S w w') (hn : ∀ k, DSet D U V pv k → ¬ S k) : DiskAt w' D U V pv d :=
  ⟨h.hD.eff hE (hn _ (.inl rfl)), h.hU.eff hE (hn _ (.inr (.inl rfl))), h.hV.eff hE (hn _ (.inr (.inr (.inl rfl)))), h.hP.eff hE (fun _ hg => hn _ (.inr (.inr (.inr hg.symm)))), h.hUV⟩
theorem OnDisk.eff {S : Nat → Prop} {n B : Nat} {w w' : World} {D U V : Nat} {pv : Value} {d : DiskD} (h : OnDisk n B w D U V pv d) (hE : Eff S w w') (hn : ∀ k, DSet D U V pv k → ¬ S k) : OnDisk n B w' D U V pv d :=
  ⟨h.hA.eff hE hn, h.off, h.left, h.dur, h.vis, h.pend, h.hD, h.hU, h.hV, h.hp⟩
/-- the call returns r; the disk is d' now -/
def OnQ (r : Int) (d' : DiskD) (n B : Nat) (D U V : Nat) (pv : Value) (w : World) (e : Ending) (w' : World) : Prop :=
  e = .returned (.int .i64 r) ∧ ∃ pv', OnDisk n B w' D U V pv' d' ∧ Eff (DSet D U V pv) w w' ∧ (pv'.ownBlock = pv.ownBlock ∨ ∀ g, pv'.ownBlock = some g → w.heap.size ≤ g)
def putD (d : DiskD) (o : Nat) (s : List UInt8) : DiskD := ⟨d.off, d.left, d.dur, splice d.vis o s, d.pend ++ [((o : Int), s)]⟩
def syncD (d : DiskD) : DiskD := ⟨d.off, d.left, d.vis, d.vis, []⟩
def crashD (d : DiskD) (K : List Int) (torn : Int) : DiskD := ⟨false, 0, crashF d K torn, crashF d K torn, []⟩
theorem hp_of {B : Nat} {w : World} {pv pv' : Value} (hB : B ≤ w.heap.size) (h : ∀ g, pv.ownBlock = some g → B ≤ g) (ho : pv'.ownBlock = pv.ownBlock ∨ ∀ g, pv'.ownBlock = some g → w.heap.size ≤ g) : ∀ g, pv'.ownBlock = some g → B ≤ g :=
  fun g hg => ho.elim (fun e => h g (by rw [← e]; exact hg)) (fun h => Nat.le_trans hB (h g hg))
theorem pend_put {d : DiskD} {n o : Nat} {s : List UInt8} (h : PendOk d) (hd : d.dur.length = n) (ho : o + s.length ≤ n) : PendOk (putD d o s) := by
  intro p hp
  rcases List.mem_append.1 hp with hp | hp
  · exact h p hp
  · obtain rfl : p = ((o : Int), s) := by simpa using hp
    show (0 : Int) ≤ o ∧ (o : Int) + s.length ≤ d.dur.length
    omega
theorem write_on {n B : Nat} {D U V : Nat} {pv : Value} {d : DiskD} (o : Nat) (s : ByteArray) {w : World} (h : OnDisk n B w D U V pv d) (hB : B ≤ w.heap.size) (hn : n ≤ 4194304) (ho : o + s.size ≤ n) (hpl : d.pend.length < 1000000) :
    Calls Try.prog 21 #[.pointer (some ⟨D, 0, none⟩), .int .i64 o, .string s] w (OnQ 0 (putD d o s.data.toList) n B D U V pv w) := by
  refine (write_in D U V pv d o s w h.hA h.off (by rw [h.dur]; exact hn) (by rw [h.vis, h.dur]) (by rw [h.left]; decide) (by rw [h.left]; decide) hpl (by rw [h.dur]; exact ho)).mono ?_
  rintro e w' ⟨he, pv', hA, hE, hO⟩
  have e1 : usedD ⟨d.off, d.left, d.dur, splice d.vis o s.data.toList, d.pend ++ [((o : Int), s.data.toList)]⟩ = putD d o s.data.toList := by unfold usedD; rw [if_pos h.left]; rfl
  rw [e1] at hA
  have hss : s.data.toList.length = s.size := by simp
  exact ⟨he, pv', ⟨hA, h.off, h.left, h.dur, (length_splice _ _ _ (by rw [h.vis, hss]; exact ho)).trans h.vis, pend_put h.pend h.dur (by rw [hss]; exact ho), h.hD, h.hU, h.hV, hp_of hB h.hp hO⟩, hE, hO⟩
theorem sync_do {n B : Nat} {D U V : Nat} {pv : Value} {d : DiskD} {w : World} (h : OnDisk n B w D U V pv d) (hB : B ≤ w.heap.size) :
    Calls Try.prog 23 #[.pointer (some ⟨D, 0, none⟩)] w (OnQ 0 (syncD d) n B D U V pv w) := by
  refine (sync_on D U V pv d w h.hA h.off (by rw [h.vis, h.dur])).mono ?_
  rintro e w' ⟨he, pv', hA, hE, hO⟩
  exact ⟨he, pv', ⟨hA, h.off, h.left, h.vis, h.vis, fun p hp => (by cases hp), h.hD, h.hU, h.hV, hp_of hB h.hp hO⟩, hE, hO⟩
theorem read_all {n B : Nat} {D U V : Nat} {pv : Value} {d : DiskD} {w : World} (h : OnDisk n B w D U V pv d) (hn : n ≤ 4194304) :
    Calls Try.prog 14 #[.pointer (some ⟨D, 0, none⟩), .int .i64 0, .int .i64 n] w (StrQ ⟨d.vis.toArray⟩ 0 w) := by
  have := read_in D U V pv d 0 n w h.hA h.off (by rw [h.dur]; exact hn) (by rw [h.vis, h.dur]) (by rw [h.dur]; omega)
  rw [List.drop_zero, List.take_of_length_le (by rw [h.vis]; exact Nat.le_refl _)] at this
  exact this
theorem crash_do {n B : Nat} {D U V : Nat} {pv : Value} {d : DiskD} {w : World} {K : List Int} {kv : Value} {torn : Int} (h : OnDisk n B w D U V pv d) (hB : B ≤ w.heap.size) (hn : n ≤ 4194304) (hpl : d.pend.length < 1000000) (hk : IntsAt w kv K) (hkl : K.length < 1000000) (ht : i64B torn) :
    Calls Try.prog 25 #[.pointer (some ⟨D, 0, none⟩), kv, .int .i64 torn] w (OnQ 0 (crashD d K torn) n B D U V pv w) := by
  refine (crash_any D U V pv d K kv torn w h.hA (by rw [h.dur]; exact hn) (by rw [h.vis, h.dur]) hpl h.pend hk hkl ht).mono ?_
  rintro e w' ⟨he, pv', hA, hE, hO⟩
  have hlen : (crashF d K torn).length = n := by
    unfold crashF
    rw [crashUp_len h.pend (ordF_in _ _) _ (Nat.le_refl _)]; exact h.dur
  exact ⟨he, pv', ⟨hA, rfl, rfl, hlen, hlen, fun p hp => (by cases hp), h.hD, h.hU, h.hV, hp_of hB h.hp hO⟩, hE, hO⟩
/-- a new disk -/
theorem on_new {m : Nat} {w : World} {D U V : Nat} {B : Nat} (hA : DiskAt w D U V (.slice none 0 0) (disk0 m)) (h1 : B ≤ D) (h2 : B ≤ U) (h3 : B ≤ V) : OnDisk m B w D U V (.slice none 0 0) (disk0 m) :=
  ⟨hA, rfl, rfl, by simp [disk0], by simp [disk0], fun p hp => (by cases hp), h1, h2, h3, fun g hg => by cases hg⟩
/-- the state behind a write, synced or not -/
def stepW (n : Nat) (d : DiskD) (p : WPar) : DiskD :=
  let d1 := putD d (offN n p) (strN n p).data.toList
  if p.sync then syncD d1 else d1
def runW (n : Nat) (l : List WPar) : Nat → DiskD
  | 0 => disk0 n
  | k + 1 => stepW n (runW n l k) (l.getD k wp0)
theorem runW_pend (n : Nat) (l : List WPar) : ∀ k, (runW n l k).pend.length ≤ k
  | 0 => by simp [runW, disk0]
  | k + 1 => by
    have ih := runW_pend n l k
    simp only [runW, stepW]
    split
    · simp [syncD]
    · simp [putD]; omega
theorem stepW_vis (n : Nat) (d : DiskD) (p : WPar) : (stepW n d p).vis = splice d.vis (offN n p) (strN n p).data.toList := by
  unfold stepW; cases p.sync <;> rfl
theorem off_set {D U V : Nat} {pv : Value} {d : DiskD} {w : World} (h : DiskAt w D U V pv d) {b : Nat} {l : List Value} (hb : Blk w b l 5) (h1 : b ≠ U) (h2 : b ≠ V) : ¬ DSet D U V pv b := by
  rintro (rfl | rfl | rfl | hk)
  · exact hb.neT h.hD (by decide) rfl
  · exact h1 rfl
  · exact h2 rfl
  · exact h.hP.neT hb (by decide) hk.symm
theorem off_typ {D U V : Nat} {pv : Value} {d : DiskD} {w : World} (h : DiskAt w D U V pv d) {b : Nat} {l : List Value} {t : TypeId} (hb : Blk w b l t) (h1 : t ≠ 65) (h2 : t ≠ 5) (h3 : t ≠ 69) : ¬ DSet D U V pv b := by
  rintro (rfl | rfl | rfl | hk)
  · exact hb.neT h.hD h1 rfl
  · exact hb.neT h.hU h2 rfl
  · exact hb.neT h.hV h2 rfl
  · exact h.hP.neT hb h3 hk.symm
end Go.Proofs.Ytednelejpkchbaa
