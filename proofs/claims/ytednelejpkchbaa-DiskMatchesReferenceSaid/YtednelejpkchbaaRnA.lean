/- The reference's disk in memory; own slices of bytes; walks of New, apply, Visible. Conditions: how it lies in memory; sizes. -/
import Derived.Test.YtednelejpkchbaaLkI
import Derived.Test.YtednelejpkchbaaLkG
namespace Go.Proofs.Ytednelejpkchbaa
open Go.RowKit

/-- an own slice of bytes -/
def OwnU (w : World) (B : Nat) (v : Value) (l : List UInt8) : Prop := w.ownsRow B 5 1 v l.length (bytesV l)
theorem OwnU.eff {S : Nat → Prop} {w w' : World} {B : Nat} {v : Value} {l : List UInt8} (h : OwnU w B v l) (hE : Eff S w w') (hn : ∀ g, v.ownBlock = some g → ¬ S g) : OwnU w' B v l := by
  obtain ⟨h1, h2⟩ := h
  refine ⟨h1, h2.imp id ?_⟩
  rintro ⟨g, cap, cur, e1, e2, e3, e4⟩
  exact ⟨g, cap, cur, e1, e2, (hE.block g ((Array.getElem?_eq_some_iff.1 e3).1) (hn g (by rw [e1]; rfl))).trans e3, e4⟩
theorem OwnU.heap {w : World} {B : Nat} {v : Value} {l : List UInt8} (h : OwnU w B v l) {g : Nat} (hg : v.ownBlock = some g) : B ≤ g ∧ ∃ cur, w.heap[g]? = some (.cells cur 5 (0, 0)) := by
  rcases h.2 with ⟨rfl, -⟩ | ⟨g', cap, cur, rfl, e2, e3, -⟩
  · cases hg
  · have hg : some g' = some g := hg
    cases hg
    exact ⟨e2, cur, e3⟩
theorem OwnU.lt {w : World} {B : Nat} {v : Value} {l : List UInt8} (h : OwnU w B v l) {g : Nat} (hg : v.ownBlock = some g) : g < w.heap.size := by
  obtain ⟨-, cur, hc⟩ := h.heap hg
  exact (Array.getElem?_eq_some_iff.1 hc).1
theorem OwnU.later {w w' : World} {B : Nat} {v : Value} {l : List UInt8} (h : OwnU w B v l) (hb : Below w.heap.size w w') : OwnU w' B v l :=
  h.eff (Eff.of_below hb (fun _ => False)) (fun _ _ h => h)
theorem OwnU.form {w : World} {B : Nat} {v : Value} {l : List UInt8} (h : OwnU w B v l) (hl : 0 < l.length) : ∃ g c, v = .slice (some ⟨g, 0, none⟩) l.length c ∧ B ≤ g ∧ l.length ≤ c ∧ c ≤ 9223372036854775807 := by
  rcases h.2 with ⟨rfl, h0⟩ | ⟨g', cap, cur, rfl, e2, e3, e4, e5, -⟩
  · omega
  · exact ⟨g', cap, rfl, e2, e4, by simpa [maxLen] using e5⟩
theorem OwnU.cell {w : World} {B g n c : Nat} {l : List UInt8} (h : OwnU w B (.slice (some ⟨g, 0, none⟩) n c) l) (j : Nat) (hj : j < l.length) : w.cell? ⟨g, j, none⟩ = some (byteV (l.getD j 0)) := by
  have hn : n = l.length := by
    rcases h.2 with ⟨h1, -⟩ | ⟨g', c', cur, e1, -⟩
    · cases h1
    · cases e1; rfl
  subst hn
  rw [World.ownsRow.cellAt h j (by omega), bytes_at l j hj]
theorem OwnU.neT {w : World} {B b : Nat} {t : TypeId} {v : Value} {l : List UInt8} {vs : List Value} (h : OwnU w B v l) (hb : Blk w b vs t) (ht : t ≠ 5) : v.ownBlock ≠ some b := by
  intro he
  obtain ⟨-, cur, hc⟩ := h.heap he
  have := (show w.heap[b]? = _ from hb).symm.trans hc
  simp at this; exact ht this.2
theorem OwnU.of {w : World} {B g : Nat} {l : List UInt8} (hb : Blk w g (bytesV l) 5) (hB : B ≤ g) (hl : l.length ≤ 4194304) : OwnU w B (.slice (some ⟨g, 0, none⟩) l.length l.length) l :=
  ⟨by simp [bytesV_len], .inr ⟨g, l.length, (bytesV l).toArray, rfl, hB, hb, Nat.le_refl _, by unfold maxLen; omega, by simp [bytesV_len], by rw [Nat.mul_one]; exact List.take_of_length_le (by rw [bytesV_len]; exact Nat.le_refl _)⟩⟩
theorem OwnU.mono {w : World} {B B' : Nat} {v : Value} {l : List UInt8} (h : OwnU w B v l) (hb : B' ≤ B) : OwnU w B' v l :=
  ⟨h.1, h.2.imp id fun ⟨g, cap, cur, h1, h2, h3⟩ => ⟨g, cap, cur, h1, Nat.le_trans hb h2, h3⟩⟩

structure RefD where
  sure : List UInt8
  pend : List (Int × List UInt8)
  down : Bool
  left : Int
structure RefAt (w : World) (X : Nat) (sv lv : Value) (r : RefD) : Prop where
  hX : Blk w X [sv, lv, .bool r.down, .int .i64 r.left] 43
  hS : OwnU w 0 sv r.sure
  hL : OwnR w 0 80 2 lv (r.pend.map pendCells)
def RSet (X : Nat) (sv lv : Value) : Nat → Prop := fun k => k = X ∨ some k = sv.ownBlock ∨ some k = lv.ownBlock
theorem RefAt.eff {S : Nat → Prop} {w w' : World} {X : Nat} {sv lv : Value} {r : RefD} (h : RefAt w X sv lv r) (hE : Eff S w w') (hn : ∀ k, RSet X sv lv k → ¬ S k) : RefAt w' X sv lv r :=
  ⟨h.hX.eff hE (hn _ (.inl rfl)), h.hS.eff hE (fun _ hg => hn _ (.inr (.inl hg.symm))), h.hL.eff hE (fun _ hg => hn _ (.inr (.inr hg.symm)))⟩
theorem RefAt.later {w w' : World} {X : Nat} {sv lv : Value} {r : RefD} (h : RefAt w X sv lv r) (hb : Below w.heap.size w w') : RefAt w' X sv lv r :=
  h.eff (Eff.of_below hb (fun _ => False)) (fun _ _ h => h)
theorem RefAt.lt {w : World} {X : Nat} {sv lv : Value} {r : RefD} (h : RefAt w X sv lv r) : ∀ k, RSet X sv lv k → k < w.heap.size := by
  rintro k (rfl | hk | hk)
  · exact h.hX.lt
  · exact h.hS.lt hk.symm
  · exact h.hL.ltO hk.symm
/-- the writes lie on it -/
structure RefOk (n : Nat) (r : RefD) : Prop where
  sure : r.sure.length = n
  pend : ∀ p ∈ r.pend, 0 ≤ p.1 ∧ p.1 + p.2.length ≤ n
  left : 0 ≤ r.left ∧ r.left ≤ 9223372036854775807
theorem replay_len {n : Nat} : ∀ (p : List (Int × List UInt8)) (b : List UInt8), b.length = n → (∀ q ∈ p, 0 ≤ q.1 ∧ q.1 + q.2.length ≤ n) → (replay b p).length = n
  | [], b, h, _ => h
  | q :: t, b, h, hp => by
    have hq := hp q (by simp)
    exact replay_len t _ (by rw [length_splice _ _ _ (by rw [h]; omega)]; exact h) (fun x hx => hp x (by simp [hx]))
set_option maxRecDepth 20000 in
set_option maxHeartbeats 1000000 in
theorem apply_any (B g o : Nat) (s : ByteArray) (l : List UInt8) (n c : Nat) (w : World) (h : OwnU w B (.slice (some ⟨g, 0, none⟩) n c) l) (hnl : n = l.length) (ho : o + s.size ≤ l.length) (hl : l.length ≤ 4194304) :
    Calls Try.prog 44 #[.slice (some ⟨g, 0, none⟩) n c, .int .i64 o, .string s] w (fun e w' => e = .returned (.tuple #[]) ∧ OwnU w' B (.slice (some ⟨g, 0, none⟩) n c) (splice l o s.data.toList) ∧ Eff (· = g) w w') := by
  go_enter Try.func44, Try.ntmps44
  go_wp2_with fail
  go_loopw [6] (fun i wr => ∃ k : Nat, k ≤ s.size ∧ i = .int .i64 k ∧ OwnU wr B (.slice (some ⟨g, 0, none⟩) n c) (splice l o (s.data.toList.take k)) ∧ Eff (· = g) w wr) (fun i _ => s.size - (intOf i).toNat)
  case atStart => exact ⟨0, by omega, rfl, by simpa [splice_nil] using h, Eff.refl _ _⟩
  case round =>
    obtain ⟨k, hk, rfl, hG, hE⟩ := hrel
    have hss : (s.size : Int) ≤ 4194304 := by omega
    by_cases hlt : k < s.size
    · have hsl : (splice l o (s.data.toList.take k)).length = l.length := length_splice _ _ _ (by simp; omega)
      have hc := hG.cell (o + k) (by rw [hsl]; omega)
      have hc' : wr.cell? ⟨g, o + k, none⟩ = some (.int .u8 (((splice l o (s.data.toList.take k)).getD (o + k) 0).toNat : Int)) := hc
      have hG' : wr.ownsRow B 5 1 (.slice (some ⟨g, 0, none⟩) n c) n (bytesV (splice l o (s.data.toList.take k))) := by
        have h1 := hG
        unfold OwnU at h1
        rw [hsl, ← hnl] at h1; exact h1
      have hf : wr.frozen? ⟨g, o + k, none⟩ = false := World.ownsRow.frozenAt hG' (o + k)
      have HST := hide (splice_step (l := l) (o := o) (k := k) (s := s.data.toList) (by simpa using ho) (by simpa using hlt))
      have hkl : o + k < n := by omega
      have HS := hide (World.ownsRow.stored hG' (o + k))
      have HSL := hide hsl
      have HNL := hide hnl
      generalize (splice l o (s.data.toList.take k)).getD (o + k) 0 = z at hc hc'
      clear hc hsl hnl
      go_wp2_with fail
      go_roundw
      case rel =>
        refine ⟨k + 1, by omega, by go_num, ?_, hE.trans (Eff.setCell _ _ _ _)⟩
        have e : byteV (s.data.toList.getD k 0) = .int .u8 (s[k].toNat : Int) := by
          unfold byteV
          rw [List.getD_eq_getElem?_getD, List.getElem?_eq_getElem (by simpa using hlt)]; rfl
        have h1 := (HS.out (.int .u8 (s[k].toNat : Int))).1
        unfold OwnU
        rw [HST.out, bytes_set, e, List.length_set, HSL.out, ← HNL.out]
        exact h1
      case measure => simp [intOf]; omega
    · obtain rfl : k = s.size := by omega
      rw [List.take_of_length_le (by simp)] at hG
      go_wp2_with fail
      go_end0
      exact ⟨rfl, hG, hE⟩
/-- many bytes, appended -/
theorem app_bytesE {w : World} {ops : Array Oper} {rest : List Oper} {o : Oper} {a : Act} {Q : Exit → Act → World → Prop} (hgd : o.guard = none) (s x : Operand)
    (ho : o.op = .call { callee := .builtin .append, args := #[s, x], argTypes := #[40, 40] }) (B : Nat) (v : Value) (l : List UInt8) (hs : a.eval s = v) (hown : OwnU w B v l) (gx nx c : Nat) (lx : List UInt8)
    (hx : a.eval x = .slice (some ⟨gx, 0, none⟩) nx c) (hnx : nx = lx.length) (hxs : ∀ j, j < lx.length → w.cell? ⟨gx, j, none⟩ = some (byteV (lx.getD j 0))) (hlen : l.length + lx.length < 100000000) (hB : B ≤ w.heap.size)
    (h : ∀ v' w', OwnU w' B v' (l ++ lx) → Eff (fun k => some k = v.ownBlock) w w' → (v'.ownBlock = v.ownBlock ∨ ∀ g, v'.ownBlock = some g → w.heap.size ≤ g) → wpList Try.prog ops Q rest (a.put o.dst v') w') :
    wpList Try.prog ops Q (o :: rest) a w := by
  subst hnx
  obtain ⟨i0, hi, hz0, hz1, hz2⟩ := info_parts infoByteC
  have hcells : ∀ j u, (bytesV lx)[j]? = some u → w.cell? ((⟨gx, 0, none⟩ : Addr).add j) = some u := fun j u hj => by
    have hjl : j < lx.length := by
      have := (List.getElem?_eq_some_iff.1 hj).1; simpa [bytesV_len] using this
    have e : (⟨gx, 0, none⟩ : Addr).add j = ⟨gx, j, none⟩ := by cases j <;> simp [Addr.add]
    rw [e, hxs j hjl, ← bytes_at lx j hjl, hj]
  obtain ⟨v', w', hrun, h2, h3, -, h5⟩ := run_append_own_at (P := Try.prog) w B 40 o.type 5 i0 (.int .u8 0) 1 1 Try.underlying40 hi hz0 hz1 hz2 rfl (by decide) v l.length (bytesV l) hown
    ⟨gx, 0, none⟩ lx.length c (bytesV lx) (by simp [bytesV_len]) hcells (bytesV_one _) (by unfold maxLen; omega) (by omega) hB
  refine wpList_plain hgd fun K hK => ?_
  unfold Oper.wp execOp
  simp only [ho, resolve, invoke, builtin, Sem.run_bind, Sem.run_pure, Result.andThen_ok, List.map_toArray, List.map_cons, List.map_nil, hs, hx, hrun]
  refine hK _ _ (h v' w' ?_ ⟨h3.os, h3.tape, h3.output, h3.size, fun b hb hn => h3.block b hb hn⟩ (h5.imp id fun e g hg => by rw [e] at hg; cases hg; exact Nat.le_refl _))
  unfold OwnU
  have e : bytesV (l ++ lx) = bytesV l ++ bytesV lx := by simp [bytesV]
  rw [e, List.length_append]; exact h2
end Go.Proofs.Ytednelejpkchbaa
