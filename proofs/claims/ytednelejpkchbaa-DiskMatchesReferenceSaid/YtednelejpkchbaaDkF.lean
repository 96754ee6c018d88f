/- The walk of Write. Conditions: how the disk lies in memory; sizes. -/
import Derived.Test.YtednelejpkchbaaDkE
import Derived.Maps.AppendAt
namespace Go.Proofs.Ytednelejpkchbaa
open Go.RowKit

/-- the blocks of a disk -/
def DSet (D U V : Nat) (pv : Value) : Nat → Prop := fun k => k = D ∨ k = U ∨ k = V ∨ some k = pv.ownBlock
/-- the call returns a number; the disk is d' now; what does not belong to it is as it was -/
def DiskQ (n : Int) (d' : DiskD) (D U V : Nat) (pv : Value) (w : World) (e : Ending) (w' : World) : Prop :=
  e = .returned (.int .i64 n) ∧ ∃ pv', DiskAt w' D U V pv' d' ∧ Eff (DSet D U V pv) w w' ∧ (pv'.ownBlock = pv.ownBlock ∨ ∀ g, pv'.ownBlock = some g → w.heap.size ≤ g)
def okW (d : DiskD) (off : Int) (s : List UInt8) : Bool := !d.off && insideB d.dur.length off s.length
def errWr (d : DiskD) (off : Int) (s : List UInt8) : Int := if d.off then 361 else if insideB d.dur.length off s.length then 0 else 360
def writeD (d : DiskD) (off : Int) (s : List UInt8) : DiskD := if okW d off s then usedD ⟨d.off, d.left, d.dur, splice d.vis off.toNat s, d.pend ++ [(off, s)]⟩ else d
theorem infoWrite : (Try.prog.info? 69).map (fun i => (i.zero, i.size, i.bytes)) = some (some (.agg #[.int .i64 0, .string ⟨#[]⟩]), 2, 24) := by kernel_rfl
theorem app_write {w : World} {ops : Array Oper} {rest : List Oper} {o : Oper} {a : Act} {Q : Exit → Act → World → Prop} (hgd : o.guard = none) (s x : Operand)
    (ho : o.op = .call { callee := .builtin .append, args := #[s, x], argTypes := #[63, 63] }) (v : Value) (L : List (List Value)) (hs : a.eval s = v) (hown : OwnR w 0 69 2 v L) (r : List Value) (hrk : r.length = 2)
    (h1 : ∀ u ∈ r, u.oneCell' = true) (nb : Nat) (hx : a.eval x = .slice (some ⟨nb, 0, none⟩) 1 1) (hnb : nb = w.heap.size) (hlen2 : L.length < 1000000)
    (h : ∀ v' w', OwnR w' 0 69 2 v' (L ++ [r]) → Eff (fun k => some k = v.ownBlock) w w' → (v'.ownBlock = v.ownBlock ∨ ∀ g, v'.ownBlock = some g → w.heap.size ≤ g) → wpList Try.prog ops Q rest (a.put o.dst v') w') :
    wpList Try.prog ops Q (o :: rest) a (w.alloc (.cells r.toArray 69)) := by
  subst hnb
  obtain ⟨i0, hi, hz0, hz1, hz2⟩ := info_parts infoWrite
  have hnews : ∀ j u, r[j]? = some u → (w.alloc (.cells r.toArray 69)).cell? ((⟨w.heap.size, 0, none⟩ : Addr).add j) = some u := fun j u hj => by
    have := (Blk.new w r 69).cell j hj
    cases j <;> simpa [Addr.add] using this
  obtain ⟨v', w', hrun, h2, h3, -, h5⟩ := run_append_own_at (P := Try.prog) (w.alloc (.cells r.toArray 69)) 0 63 o.type 69 i0 _ 2 24 Try.underlying63 hi hz0 hz1 hz2 rfl (by decide) v L.length L.flatten (World.ownsRow.alloc hown.1 _)
    ⟨w.heap.size, 0, none⟩ 1 1 r (by rw [hrk]) hnews h1 (by unfold maxLen; omega) (by omega) (Nat.zero_le _)
  refine wpList_plain hgd fun K hK => ?_
  unfold Oper.wp execOp
  simp only [ho, resolve, invoke, builtin, Sem.run_bind, Sem.run_pure, Result.andThen_ok, List.map_toArray, List.map_cons, List.map_nil, hs, hx, hrun]
  refine hK _ _ (h v' w' ⟨by simpa using h2, fun q hq => ?_⟩ ⟨h3.os, h3.tape, h3.output, by have := h3.size; simp at this; omega, fun b hb hn => ?_⟩ (h5.imp id fun e g hg => by rw [e] at hg; cases hg; simp))
  · rcases List.mem_append.1 hq with h2 | h2
    · exact hown.2 q h2
    · simp at h2; rw [h2, hrk]
  · rw [h3.block b (by simp; omega) hn, Below.heap_alloc _ _ _ hb]
set_option maxRecDepth 20000 in
set_option maxHeartbeats 1000000 in
theorem write_off (D U V : Nat) (pv : Value) (d : DiskD) (off : Int) (s : ByteArray) (w : World) (h : DiskAt w D U V pv d) (hoff : d.off = true) :
    Calls Try.prog 21 #[.pointer (some ⟨D, 0, none⟩), .int .i64 off, .string s] w (DiskQ 361 d D U V pv w) := by
  obtain ⟨o, le, du, vi, pe⟩ := d
  obtain ⟨hD, hU, hV, hP, hUV⟩ := id h
  have c0 : w.cell? ⟨D, 0, none⟩ = some (.bool o) := hD.cell 0 rfl
  have c2 : w.cell? ⟨D, 2, none⟩ = some (.slice (some ⟨U, 0, none⟩) du.length du.length) := hD.cell 2 rfl
  obtain rfl : o = true := hoff
  clear hD hU hV hP hUV
  go_enter Try.func21, Try.ntmps21
  go_wp2_with (go_at_call 28; refine (check_any D _ true c0).mono ?_; rintro e w' ⟨rfl, rfl⟩)
  go_ret
  exact ⟨rfl, pv, h, Eff.refl _ _, .inl rfl⟩
set_option maxRecDepth 20000 in
set_option maxHeartbeats 1000000 in
theorem write_out (D U V : Nat) (pv : Value) (d : DiskD) (off : Int) (s : ByteArray) (w : World) (h : DiskAt w D U V pv d) (hoff : d.off = false) (hsz : d.dur.length ≤ 4194304) (h64 : -9223372036854775808 ≤ off ∧ off ≤ 9223372036854775807)
    (hs : (s.size : Int) ≤ 9223372036854775807) (hin : insideB d.dur.length off s.size = false) :
    Calls Try.prog 21 #[.pointer (some ⟨D, 0, none⟩), .int .i64 off, .string s] w (DiskQ 360 d D U V pv w) := by
  obtain ⟨o, le, du, vi, pe⟩ := d
  obtain ⟨hD, hU, hV, hP, hUV⟩ := id h
  have c0 : w.cell? ⟨D, 0, none⟩ = some (.bool o) := hD.cell 0 rfl
  have c2 : w.cell? ⟨D, 2, none⟩ = some (.slice (some ⟨U, 0, none⟩) du.length du.length) := hD.cell 2 rfl
  obtain rfl : o = false := hoff
  have HI := hide (inside_any D w off s.size _ _ _ c2 hsz h64)
  have HIN := hide hin
  clear hD hU hV hP hUV hsz hin
  go_enter Try.func21, Try.ntmps21
  go_wp2_with (first | (go_at_call 28; refine (check_any D _ false c0).mono ?_; rintro e w' ⟨rfl, rfl⟩) | (go_at_call 29; refine HI.out.mono ?_; rintro e w' ⟨rfl, rfl⟩; rw [show insideB (DiskD.mk false le du vi pe).dur.length off s.size = false from HIN.out]))
  go_ret
  exact ⟨rfl, pv, h, Eff.refl _ _, .inl rfl⟩
end Go.Proofs.Ytednelejpkchbaa
