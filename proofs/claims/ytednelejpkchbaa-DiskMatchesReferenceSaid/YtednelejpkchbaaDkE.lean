/- The walk of settle. Conditions: how the disk lies in memory. -/
import Derived.Test.YtednelejpkchbaaDkD
namespace Go.Proofs.Ytednelejpkchbaa
open Go.RowKit

/-- pending writes behind [:0] -/
def cutPv : Value → Value
  | .slice p _ c => .slice p 0 c
  | v => v
theorem zeroWrite (w : World) : (zeroValue 69).run Try.prog w = .ok (.agg #[.int .i64 0, .string ⟨#[]⟩]) w := by kernel_rfl
theorem run_cut0 (p : Option Addr) (n c : Nat) (hp : ∀ a, p = some a → ∃ g, a = ⟨g, 0, none⟩) (w : World) : (Instr.slice 63 (.slice p n c) none (some (.int .i64 0)) none).run Try.prog w = .ok (.slice p 0 c) w := by
  have hu := Try.underlying63
  cases p with
  | none => simp [Instr.slice, run_underlying hu, Instr.sliceBounds, run_sliceBound]
  | some a =>
    obtain ⟨g, rfl⟩ := hp a rfl
    simp [Instr.slice, run_underlying hu, Instr.sliceBounds, run_sliceBound, Addr.add]
/-- clear, and what is left of the pending writes -/
theorem clear_pend {w : World} {pv : Value} {L : List (List Value)} (h : OwnR w 0 69 2 pv L) : ∃ (p : Option Addr) (c : Nat) (w' : World), pv = .slice p L.length c ∧ (∀ a, p = some a → ∃ g, a = ⟨g, 0, none⟩) ∧
    (∀ ty, (Builtin.clear_ #[63] ty #[.slice p L.length c]).run Try.prog w = .ok (.tuple #[]) w') ∧ OwnR w' 0 69 2 (.slice p 0 c) [] ∧ Eff (fun k => some k = pv.ownBlock) w w' := by
  obtain ⟨⟨h1, h2⟩, h3⟩ := h
  rcases h2 with ⟨rfl, h0⟩ | ⟨g, cap, cur, rfl, -, e3, e4, e5, e6, e7⟩
  · refine ⟨none, 0, w, by rw [h0], fun a e => (by cases e), fun ty => ?_, OwnR.nil _ _ _ _, Eff.refl _ _⟩
    rw [h0]; exact run_clear_none w _ ty _ none 0 Try.underlying63
  · by_cases hn : L.length = 0
    · refine ⟨some ⟨g, 0, none⟩, cap, w, rfl, fun a e => ⟨g, by cases e; rfl⟩, fun ty => ?_, ⟨⟨by simp, .inr ⟨g, cap, cur, rfl, Nat.zero_le _, e3, Nat.zero_le _, e5, e6, by simp⟩⟩, fun r hr => by cases hr⟩, Eff.refl _ _⟩
      rw [hn]; exact run_clear_none w _ ty _ _ cap Try.underlying63
    · obtain ⟨C, hC, key⟩ := run_clear_row w 63 69 g L.length cap _ 2 cur.toList _ Try.underlying63 (zeroWrite w) (by rfl) (by simpa using e3) (by simp; rw [e6]; exact Nat.mul_le_mul_right 2 e4) (by intro v hv; simp [Value.cells] at hv; rcases hv with rfl | rfl <;> rfl) (by omega) (by decide)
      refine ⟨some ⟨g, 0, none⟩, cap, w.setRow g C.toArray, rfl, fun a e => ⟨g, by cases e; rfl⟩, key, ⟨⟨by simp, .inr ⟨g, cap, C.toArray, rfl, Nat.zero_le _, setRow_heap w g _ _ _ _ e3, Nat.zero_le _, e5, by simpa using hC.trans (by simpa using e6), by simp⟩⟩, fun r hr => by cases hr⟩, ?_⟩
      exact (Eff.setRow w g _).mono fun k _ hk => by rw [hk]; rfl
theorem OwnR.eff {S : Nat → Prop} {w w' : World} {B k : Nat} {e : TypeId} {v : Value} {L : List (List Value)} (h : OwnR w B e k v L) (hE : Eff S w w') (hn : ∀ g, v.ownBlock = some g → ¬ S g) : OwnR w' B e k v L := by
  obtain ⟨⟨h1, h2⟩, h3⟩ := h
  refine ⟨⟨h1, h2.imp id ?_⟩, h3⟩
  rintro ⟨g, cap, cur, e1, e2, e3, e4⟩
  refine ⟨g, cap, cur, e1, e2, ?_, e4⟩
  exact (hE.block g ((Array.getElem?_eq_some_iff.1 e3).1) (hn g (by rw [e1]; rfl))).trans e3
theorem Blk.eff {S : Nat → Prop} {w w' : World} {b : Nat} {vs : List Value} {t : TypeId} (h : Blk w b vs t) (hE : Eff S w w') (hn : ¬ S b) : Blk w' b vs t := (hE.block b h.lt hn).trans h
/-- an own slice's block is no block of another type -/
theorem OwnR.neT {w : World} {B k b : Nat} {e t : TypeId} {v : Value} {L : List (List Value)} {vs : List Value} (h : OwnR w B e k v L) (hb : Blk w b vs t) (ht : t ≠ e) : v.ownBlock ≠ some b := by
  rcases h.form with ⟨rfl, -⟩ | ⟨g, c, cur, rfl, -, e3, -⟩
  · simp [Value.ownBlock]
  · intro he
    have he : g = b := Option.some.inj he
    subst he
    have := (show w.heap[g]? = _ from hb).symm.trans e3
    simp at this; exact ht this.2
theorem Blk.neT {W : World} {b c : Nat} {vs us : List Value} {t t' : TypeId} (h : Blk W b vs t) (k : Blk W c us t') (ht : t ≠ t') : b ≠ c := fun e => by
  subst e
  have := (show W.heap[b]? = _ from h).symm.trans (show W.heap[b]? = _ from k)
  simp at this; exact ht this.2
/-- what settle leaves -/
def SettleQ (D T : Nat) (l : List UInt8) (pv : Value) (o : Bool) (le : Int) (c2 c3 : Value) (w : World) (e : Ending) (w' : World) : Prop :=
  e = .returned (.tuple #[]) ∧ ∃ pv', Blk w' T (bytesV l) 5 ∧ Blk w' D [.bool o, .int .i64 le, c2, c3, pv'] 65 ∧ OwnR w' 0 69 2 pv' [] ∧ (pv'.ownBlock = pv.ownBlock) ∧ Eff (fun k => k = D ∨ k = T ∨ some k = pv.ownBlock) w w'
theorem infoByte' : (Try.prog.info? 5).map (·.size) = some 1 := by kernel_rfl
theorem splice_full {α : Type} (l s : List α) (h : s.length = l.length) : splice l 0 s = s := by simp [splice, ← h]
set_option maxRecDepth 20000 in
set_option maxHeartbeats 1000000 in
theorem settle_any (D F T : Nat) (lf lt : List UInt8) (pv : Value) (L : List (List Value)) (o : Bool) (le : Int) (c2 c3 : Value) (w : World) (hF : Blk w F (bytesV lf) 5) (hT : Blk w T (bytesV lt) 5) (hD : Blk w D [.bool o, .int .i64 le, c2, c3, pv] 65)
    (hP : OwnR w 0 69 2 pv L) (hl : lf.length = lt.length) (hFT : F ≠ T) :
    Calls Try.prog 37 #[.pointer (some ⟨D, 0, none⟩), .slice (some ⟨F, 0, none⟩) lf.length lf.length, .slice (some ⟨T, 0, none⟩) lt.length lt.length] w (SettleQ D T lf pv o le c2 c3 w) := by
  have hDT := hD.neT hT (by decide)
  have hPT := hP.neT hT (by decide)
  have hPD := hP.neT hD (by decide)
  have HL := hide hl
  have hsrc : ∀ (j : Nat) (v : Value), (bytesV lf)[j]? = some v → w.cell? ((⟨F, 0, none⟩ : Addr).add j) = some v := fun j v hj => by
    have := hF.cell j hj
    cases j <;> simpa [Addr.add] using this
  obtain ⟨w1, hcopy, hT1, hE1⟩ : ∃ w1, (∀ ty, (Builtin.copy_ #[40, 40] ty #[.slice (some ⟨T, 0, none⟩) lt.length lt.length, .slice (some ⟨F, 0, none⟩) lf.length lf.length]).run Try.prog w = .ok (.int .i64 lf.length) w1) ∧ Blk w1 T (bytesV lf) 5 ∧ Eff (· = T) w w1 := by
    refine ⟨_, fun ty => ?_, ?_, Eff.setRow w T (bytesV lf).toArray⟩
    · have := run_copy_row (P := Try.prog) w 40 40 ty 5 T 0 lt.length lt.length ⟨F, 0, none⟩ lf.length lf.length (bytesV lt).toArray 5 (bytesV lf) Try.underlying40 infoByte' hT (by rw [bytesV_len, hl]; simp) hsrc (by simp [bytesV_len, hl]) (bytesV_one _)
      rw [this, bytesV_len]
      have e : ((bytesV lt).toArray.toList.take 0 ++ bytesV lf ++ (bytesV lt).toArray.toList.drop (0 + lf.length)).toArray = (bytesV lf).toArray := by simp [bytesV_len, hl]
      rw [e]; rfl
    · exact setRow_heap w T _ _ _ _ hT
  have hD1 := hD.eff hE1 hDT
  have hP1 := hP.eff hE1 (fun g hg e => hPT (by rw [hg, e]))
  obtain ⟨p, c, w2, rfl, hp, hclear, hP2, hE2⟩ := clear_pend hP1
  have hcut := run_cut0 p L.length c hp
  have hT2 := hT1.eff hE2 (fun e => hPT e.symm)
  have hD2 := hD1.eff hE2 (fun e => hPD e.symm)
  have d4 := hD1.cell 4 rfl
  have d4' := hD2.cell 4 rfl
  have f4 := hD2.frozen 4
  clear hF hT hD hP hsrc hl hp hD1 hP1 hT1
  go_enter Try.func37, Try.ntmps37
  go_wp2_with fail
  go_end0
  refine ⟨rfl, .slice p 0 c, hT2.other (Ne.symm hDT) _ _, hD2.set 4 _, hP2.eff (Eff.setCell _ D 4 _) (fun g hg e => hPD (by have e : g = D := e; rw [← e, ← hg]; cases p <;> rfl)), by cases p <;> rfl, ?_⟩
  exact ((hE1.mono fun k _ h => Or.inr (Or.inl h)).trans (hE2.mono fun k _ h => Or.inr (Or.inr h))).trans ((Eff.setCell _ D 4 _).mono fun k _ h => Or.inl h)
end Go.Proofs.Ytednelejpkchbaa
