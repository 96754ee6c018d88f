/- The walks of onto and settle. Conditions: how the bytes lie in memory; that the write lies within. -/
import Derived.Test.YtednelejpkchbaaDkB
import Derived.StillTailTactics
namespace Go.Proofs.Ytednelejpkchbaa
open Go.RowKit

theorem wpList_copy_str {P : Program} {w : World} {ops : Array Oper} {rest : List Oper} {o : Oper} {a : Act} {Q : Exit → Act → World → Prop} (hgd : o.guard = none) (d s : Operand) (dT sT : TypeId)
    (ho : o.op = .call { callee := .builtin .copy, args := #[d, s], argTypes := #[dT, sT] }) (elem : TypeId) (hu : P.underlying dT = some (.slice elem)) (hsz : (P.info? elem).map (·.size) = some 1)
    (g off dLen dCap : Nat) (str : ByteArray) (hd : a.eval d = .slice (some ⟨g, off, none⟩) dLen dCap) (hs : a.eval s = .string str)
    (cur : List Value) (t : TypeId) (hg : w.heap[g]? = some (.cells cur.toArray t (0, 0))) (n : Nat) (hn : n = Nat.min str.size dLen) (hfit : off + n ≤ cur.length)
    (h : ∀ w', Blk w' g (splice cur off (bytesV (str.data.toList.take n))) t → Eff (· = g) w w' → wpList P ops Q rest (a.put o.dst (goInt n)) w') : wpList P ops Q (o :: rest) a w := by
  refine wpList_plain hgd fun K hK => ?_
  have hrun := run_copy_str (P := P) w dT sT o.type elem g off dLen dCap str cur t n hu hsz hg hn hfit
  unfold Oper.wp
  simp [execOp, ho, resolve, invoke, builtin, hd, hs, hrun, Result.andThen]
  exact hK _ _ (h _ (show _ = _ from setRow_heap w g _ _ t _ hg) (Eff.setRow _ _ _))
theorem infoByte : (Try.prog.info? 5).map (·.size) = some 1 := by kernel_rfl
/-- the call returns nothing; block g holds l; no other block is turned -/
def BytesQ (g : Nat) (l : List UInt8) (w : World) (e : Ending) (w' : World) : Prop := e = .returned (.tuple #[]) ∧ Blk w' g (bytesV l) 5 ∧ Eff (· = g) w w'
theorem splice_map' (l s : List UInt8) (o : Nat) : bytesV (splice l o s) = splice (bytesV l) o (bytesV s) := splice_map _ _ _ _
theorem splice_nil {α : Type} (l : List α) (o : Nat) : splice l o [] = l := by simp [splice]
/-- where b[o:] begins -/
def cutAt (n o : Nat) : Nat := if n = o then 0 else o
theorem cut_fit {n o m : Nat} (h : o + m ≤ n) : cutAt n o + m ≤ n := by unfold cutAt; split <;> omega
theorem cut_splice {α : Type} (l : List α) (o : Nat) (s : List α) (h : o + s.length ≤ l.length) : splice l (cutAt l.length o) s = splice l o s := by
  unfold cutAt
  by_cases e : l.length = o
  · rw [if_pos e]
    obtain rfl : s = [] := List.eq_nil_of_length_eq_zero (by omega)
    rw [splice_nil, splice_nil]
  · rw [if_neg e]
theorem run_cut (g n o : Nat) (h : o ≤ n) (w : World) : (Instr.slice 40 (.slice (some ⟨g, 0, none⟩) n n) (some (.int .i64 (o : Int))) none none).run Try.prog w = .ok (.slice (some ⟨g, cutAt n o, none⟩) (n - o) (n - o)) w := by
  have hu := Try.underlying40
  have h1 : (0 : Int) ≤ (o : Int) := by omega
  have h2 : (o : Int) ≤ (n : Int) := by omega
  simp [Instr.slice, run_underlying hu, Instr.sliceBounds, run_sliceBound, h1, h2, cutAt]
  by_cases e : n = o
  · simp [e]
  · simp [e, Addr.add]; exact fun h => h.symm
set_option maxRecDepth 20000 in
set_option maxHeartbeats 600000 in
theorem onto_any (g o : Nat) (s : ByteArray) (l : List UInt8) (w : World) (h : Blk w g (bytesV l) 5) (ho : o + s.size ≤ l.length) (hl : l.length ≤ 4194304) :
    Calls Try.prog 35 #[.agg #[.int .i64 o, .string s], .slice (some ⟨g, 0, none⟩) l.length l.length] w (BytesQ g (splice l o s.data.toList) w) := by
  have hsz : s.data.toList.length = s.size := by simp
  have HSP : Hid (splice l (cutAt l.length o) (s.data.toList.take s.size) = splice l o s.data.toList) := hide (by rw [List.take_of_length_le (by omega)]; exact cut_splice _ _ _ (by omega))
  have HFIT : Hid (cutAt l.length o + s.size ≤ (bytesV l).length) := hide (by rw [bytesV_len]; exact cut_fit ho)
  have hcut := run_cut g l.length o (by omega)
  have HMIN : Hid (s.size = Nat.min s.size (l.length - o)) := hide (Nat.min_eq_left (by omega)).symm
  generalize cutAt l.length o = p at HSP HFIT hcut
  generalize l.length - o = m at hcut HMIN
  clear hsz ho hl
  go_enter Try.func35, Try.ntmps35
  go_wp2_with fail
  generalize hW : World.alloc w _ = W0
  have hb : Below w.heap.size w W0 := by rw [← hW]; exact bal w _
  have bB : Blk W0 w.heap.size [.int .i64 o, .string s] 69 := by rw [← hW]; exact Blk.new w _ _
  have c0 := bB.cell 0 rfl
  have c1 := bB.cell 1 rfl
  have hG := h.later hb
  clear hW
  go_still_tail 6, (by kernel_rfl)
  change wpList _ _ _ _ _ W0.drew
  refine wpList_copy_str rfl _ _ _ _ rfl _ Try.underlying40 infoByte g p m m s rfl rfl (bytesV l) _ (hG.later (Below.refl _ _).drew) s.size HMIN.out HFIT.out ?_
  intro w' hw' he'
  rw [← splice_map' , HSP.out] at hw'
  have hE : Eff (· = g) w w' := ((Eff.of_below hb _).trans (Eff.drew _ _)).trans he'
  go_wp2_with fail
  go_end0
  exact ⟨rfl, hw', hE⟩
end Go.Proofs.Ytednelejpkchbaa
