/- Three disks beside one another: a call on the one leaves the others. Conditions: how they lie in memory. -/
import Derived.Test.YtednelejpkchbaaLkI
import Derived.Test.YtednelejpkchbaaLkG
namespace Go.Proofs.Ytednelejpkchbaa
open Go.RowKit

structure Dk where
  D : Nat
  U : Nat
  V : Nat
def Dk.set (k : Dk) (pv : Value) : Nat → Prop := DSet k.D k.U k.V pv
def Dk.on (k : Dk) (m B : Nat) (W : World) (pv : Value) (d : DiskD) : Prop := OnDisk m B W k.D k.U k.V pv d
structure Trio (m B : Nat) (W : World) (a b c : Dk) (pa pb pc : Value) (da db dc : DiskD) : Prop where
  A : a.on m B W pa da
  A2 : b.on m B W pb db
  A3 : c.on m B W pc dc
  ab : ∀ x, a.set pa x → ¬ b.set pb x
  ac : ∀ x, a.set pa x → ¬ c.set pc x
  bc : ∀ x, b.set pb x → ¬ c.set pc x
theorem dset_lt {m B : Nat} {W : World} {D U V : Nat} {pv : Value} {d : DiskD} (h : OnDisk m B W D U V pv d) : ∀ k, DSet D U V pv k → k < W.heap.size := by
  rintro k (rfl | rfl | rfl | hk)
  · exact h.hA.hD.lt
  · exact h.hA.hU.lt
  · exact h.hA.hV.lt
  · exact h.hA.hP.ltO hk.symm
theorem apart_step {W : World} {D U V : Nat} {pv pv' : Value} {S : Nat → Prop} (h : ∀ x, DSet D U V pv x → ¬ S x) (hlt : ∀ x, S x → x < W.heap.size) (ho : pv'.ownBlock = pv.ownBlock ∨ ∀ g, pv'.ownBlock = some g → W.heap.size ≤ g) :
    ∀ x, DSet D U V pv' x → ¬ S x := by
  rintro x (e | e | e | hk) hs
  · exact h x (.inl e) hs
  · exact h x (.inr (.inl e)) hs
  · exact h x (.inr (.inr (.inl e))) hs
  · rcases ho with e | e
    · exact h x (.inr (.inr (.inr (by rw [← e]; exact hk)))) hs
    · have := e x hk.symm; have := hlt x hs; omega
theorem Trio.step {m B : Nat} {W W' : World} {a b c : Dk} {pa pb pc pa' : Value} {da db dc da' : DiskD} (h : Trio m B W a b c pa pb pc da db dc) (hA : OnDisk m B W' a.D a.U a.V pa' da') (hE : Eff (DSet a.D a.U a.V pa) W W')
    (ho : pa'.ownBlock = pa.ownBlock ∨ ∀ g, pa'.ownBlock = some g → W.heap.size ≤ g) : Trio m B W' a b c pa' pb pc da' db dc :=
  ⟨hA, OnDisk.eff h.A2 hE (fun k hk hs => h.ab k hs hk), OnDisk.eff h.A3 hE (fun k hk hs => h.ac k hs hk), apart_step h.ab (dset_lt h.A2) ho, apart_step h.ac (dset_lt h.A3) ho, h.bc⟩
theorem Trio.rot {m B : Nat} {W : World} {a b c : Dk} {pa pb pc : Value} {da db dc : DiskD} (h : Trio m B W a b c pa pb pc da db dc) : Trio m B W b c a pb pc pa db dc da :=
  ⟨h.A2, h.A3, h.A, h.bc, fun x hb ha => h.ab x ha hb, fun x hc ha => h.ac x ha hc⟩
theorem Trio.later {m B : Nat} {W W' : World} {a b c : Dk} {pa pb pc : Value} {da db dc : DiskD} (h : Trio m B W a b c pa pb pc da db dc) (hb : Below W.heap.size W W') : Trio m B W' a b c pa pb pc da db dc :=
  ⟨OnDisk.later h.A hb, OnDisk.later h.A2 hb, OnDisk.later h.A3 hb, h.ab, h.ac, h.bc⟩
theorem new_apart {m B : Nat} {W : World} {a b : Dk} {pv : Value} {d : DiskD} (h : a.on m B W pv d) (h1 : W.heap.size ≤ b.D) (h2 : W.heap.size ≤ b.U) (h3 : W.heap.size ≤ b.V) : ∀ x, a.set pv x → ¬ b.set (.slice none 0 0) x := fun x hx hy => by
  have h0 := dset_lt h x hx
  rcases hy with rfl | rfl | rfl | hy
  · omega
  · omega
  · omega
  · cases hy
/-- a disk behind a write, and behind a sync -/
def st3 (d : DiskD) (o : Nat) (s : ByteArray) (b1 b2 : Bool) : DiskD := cond b2 (syncD (putD d o s.data.toList)) (cond b1 (putD d o s.data.toList) d)
/-- what holds while c (behind b1, b2) and a (behind b3, b4) are written -/
def TwG (m : Nat) (w : World) (c a k : Dk) (pd : Value) (d e : DiskD) (o : Nat) (s : ByteArray) (bx : Nat) (bv : List Value) (b1 b2 b3 b4 : Bool) (W : World) : Prop :=
  ∃ pc pa, Trio m w.heap.size W c a k pc pa pd (st3 d o s b1 b2) (st3 d o s b3 b4) e ∧ Blk W bx bv 53 ∧ Below w.heap.size w W
theorem TwG.drew {m : Nat} {w : World} {c a k : Dk} {pd : Value} {d e : DiskD} {o : Nat} {s : ByteArray} {bx : Nat} {bv : List Value} {b1 b2 b3 b4 : Bool} {W : World} (h : TwG m w c a k pd d e o s bx bv b1 b2 b3 b4 W) : TwG m w c a k pd d e o s bx bv b1 b2 b3 b4 W.drew := by
  obtain ⟨pc, pa, h1, h2, h3⟩ := h
  exact ⟨pc, pa, h1.later (Below.refl _ _).drew, h2.later (Below.refl _ _).drew, h3.drew⟩
theorem TwG.cell {m : Nat} {w : World} {c a k : Dk} {pd : Value} {d e : DiskD} {o : Nat} {s : ByteArray} {bx : Nat} {bv : List Value} {b1 b2 b3 b4 : Bool} {W : World} (h : TwG m w c a k pd d e o s bx bv b1 b2 b3 b4 W) (j : Nat) {v : Value} (hv : bv[j]? = some v) : W.cell? ⟨bx, j, none⟩ = some v := by
  obtain ⟨pc, pa, h1, h2, h3⟩ := h
  exact h2.cell j hv
section
variable {m : Nat} {w : World} {c a k : Dk} {pd : Value} {d e : DiskD} {o : Nat} {s : ByteArray} {bx : Nat} {bv : List Value} {W : World}
theorem TwG.writeC {b3 b4 : Bool} (h : TwG m w c a k pd d e o s bx bv false false b3 b4 W) (hm : m ≤ 4194304) (ho : o + s.size ≤ m) (hp : d.pend.length < 1000000) :
    Calls Try.prog 21 #[.pointer (some ⟨c.D, 0, none⟩), .int .i64 o, .string s] W (fun e' W' => e' = .returned (.int .i64 0) ∧ TwG m w c a k pd d e o s bx bv true false b3 b4 W') := by
  obtain ⟨pc, pa, h1, h2, h3⟩ := h
  refine (write_on o s h1.A h3.size hm ho hp).mono ?_
  rintro e' W' ⟨he, pv', hO, hE, hob⟩
  exact ⟨he, pv', pa, h1.step hO hE hob, h2.eff hE (off_typ h1.A.hA h2 (by decide) (by decide) (by decide)), h3.trans (hE.below h3.size h1.A.low)⟩
theorem TwG.syncC {b3 b4 : Bool} (h : TwG m w c a k pd d e o s bx bv true false b3 b4 W) :
    Calls Try.prog 23 #[.pointer (some ⟨c.D, 0, none⟩)] W (fun e' W' => e' = .returned (.int .i64 0) ∧ TwG m w c a k pd d e o s bx bv true true b3 b4 W') := by
  obtain ⟨pc, pa, h1, h2, h3⟩ := h
  refine (sync_do h1.A h3.size).mono ?_
  rintro e' W' ⟨he, pv', hO, hE, hob⟩
  exact ⟨he, pv', pa, h1.step hO hE hob, h2.eff hE (off_typ h1.A.hA h2 (by decide) (by decide) (by decide)), h3.trans (hE.below h3.size h1.A.low)⟩
theorem TwG.writeA {b1 b2 : Bool} (h : TwG m w c a k pd d e o s bx bv b1 b2 false false W) (hm : m ≤ 4194304) (ho : o + s.size ≤ m) (hp : d.pend.length < 1000000) :
    Calls Try.prog 21 #[.pointer (some ⟨a.D, 0, none⟩), .int .i64 o, .string s] W (fun e' W' => e' = .returned (.int .i64 0) ∧ TwG m w c a k pd d e o s bx bv b1 b2 true false W') := by
  obtain ⟨pc, pa, h1, h2, h3⟩ := h
  refine (write_on o s h1.A2 h3.size hm ho hp).mono ?_
  rintro e' W' ⟨he, pv', hO, hE, hob⟩
  exact ⟨he, pc, pv', (h1.rot.step hO hE hob).rot.rot, h2.eff hE (off_typ h1.A2.hA h2 (by decide) (by decide) (by decide)), h3.trans (hE.below h3.size h1.A2.low)⟩
theorem TwG.syncA {b1 b2 : Bool} (h : TwG m w c a k pd d e o s bx bv b1 b2 true false W) :
    Calls Try.prog 23 #[.pointer (some ⟨a.D, 0, none⟩)] W (fun e' W' => e' = .returned (.int .i64 0) ∧ TwG m w c a k pd d e o s bx bv b1 b2 true true W') := by
  obtain ⟨pc, pa, h1, h2, h3⟩ := h
  refine (sync_do h1.A2 h3.size).mono ?_
  rintro e' W' ⟨he, pv', hO, hE, hob⟩
  exact ⟨he, pc, pv', (h1.rot.step hO hE hob).rot.rot, h2.eff hE (off_typ h1.A2.hA h2 (by decide) (by decide) (by decide)), h3.trans (hE.below h3.size h1.A2.low)⟩
end
end Go.Proofs.Ytednelejpkchbaa
