/- The walks of fits and put. Conditions: sizes; how the bytes lie in memory. -/
import Derived.Test.YtednelejpkchbaaLkC
import Derived.Deep.DeepCutAuto
import Derived.Laws.Rows
namespace Go.Proofs.Ytednelejpkchbaa
open Go.RowKit

/-- a write as the laws are handed it -/
structure WPar where
  off : Int
  s : ByteArray
  sync : Bool
def wp0 : WPar := ⟨0, ⟨#[]⟩, false⟩
def wparV (p : WPar) : List Value := [.int .i64 p.off, .string p.s, .bool p.sync]
/-- where a write lies that fits, and what it writes -/
def offN (n : Nat) (p : WPar) : Nat := (pickF p.off (n + 1)).toNat
def strN (n : Nat) (p : WPar) : ByteArray := cutS p.s (n - offN n p)
theorem offN_le (n : Nat) (p : WPar) : offN n p ≤ n := by
  have h1 := pickF_nonneg p.off (n := (n : Int) + 1) (by omega)
  have h2 := pickF_lt p.off (n := (n : Int) + 1) (by omega)
  unfold offN; omega
theorem cutS_size (s : ByteArray) (n : Nat) : (cutS s n).size = min s.size n := by
  unfold cutS; simp [ByteArray.size_extract]
theorem fit_in (n : Nat) (p : WPar) : offN n p + (strN n p).size ≤ n := by
  have h := offN_le n p
  unfold strN; rw [cutS_size]; omega
/-- a list of writes in memory -/
def WParsIn (c : Rd) (v : Value) (l : List WPar) : Prop :=
  ∃ a n, v = .slice a l.length n ∧ l.length ≤ n ∧ n ≤ 9223372036854775807 ∧ ∀ k, k < l.length → i64B (l.getD k wp0).off ∧ ((l.getD k wp0).s.size : Int) ≤ 9223372036854775807 ∧ ∃ b o, a = some ⟨b, o, none⟩ ∧
    c ⟨b, o + k * 3, none⟩ = some (.int .i64 (l.getD k wp0).off) ∧ c ⟨b, o + k * 3 + 1, none⟩ = some (.string (l.getD k wp0).s) ∧ c ⟨b, o + k * 3 + 2, none⟩ = some (.bool (l.getD k wp0).sync)
theorem WParsIn.keeps {c c' : Rd} {v : Value} {l : List WPar} (hk : Keeps c c') (h : WParsIn c v l) : WParsIn c' v l := by
  obtain ⟨a, n, h1, h2, h3, h4⟩ := h
  exact ⟨a, n, h1, h2, h3, fun k hl => let ⟨i1, i2, b, o, e, x, y, z⟩ := h4 k hl; ⟨i1, i2, b, o, e, hk _ _ x, hk _ _ y, hk _ _ z⟩⟩
set_option maxRecDepth 20000 in
set_option maxHeartbeats 1000000 in
theorem fits_any (p : WPar) (n : Nat) (w : World) (h1 : i64B p.off) (h2 : (p.s.size : Int) ≤ 9223372036854775807) (hn : n ≤ 1000000) :
    Calls Try.prog 26 #[.agg #[.int .i64 p.off, .string p.s, .bool p.sync], .int .i64 n] w (Ret (.agg #[.int .i64 (offN n p), .string (strN n p), .bool p.sync]) w) := by
  have HP : Hid (∀ W, Calls Try.prog 15 #[.int .i64 p.off, .int .i64 ((n : Int) + 1)] W (fun e w' => e = .returned (.int .i64 (offN n p)) ∧ w' = W)) := hide fun W => by
    have h := pick_any p.off ((n : Int) + 1) W h1.1 h1.2 (by omega) (by omega)
    have e : pickF p.off ((n : Int) + 1) = (offN n p : Int) := by
      have := pickF_nonneg p.off (n := (n : Int) + 1) (by omega)
      unfold offN; omega
    rw [e] at h; exact h
  have HC : Hid (∀ W, Calls Try.prog 22 #[.string p.s, .int .i64 ((n : Int) - (offN n p : Int))] W (Str1Q (strN n p) W)) := hide fun W => by
    have h := cut_any p.s (n - offN n p) W h2 (by omega)
    have := offN_le n p
    rw [show ((n - offN n p : Nat) : Int) = (n : Int) - (offN n p : Int) by omega] at h
    exact h
  have hl := offN_le n p
  generalize offN n p = o at *
  generalize strN n p = t at *
  obtain ⟨po, ps, py⟩ := p
  clear h1 h2
  go_enter Try.func26, Try.ntmps26
  go_wp2_with fail
  generalize hX1 : World.alloc w _ = X1
  have bX1 : Below w.heap.size w X1 := by rw [← hX1]; exact bal w _
  have bA_0 : Blk X1 w.heap.size [.int .i64 po, .string ps, .bool py] 53 := by rw [← hX1]; exact Blk.newA w _ rfl
  have zX : X1.heap.size = w.heap.size + 1 := by rw [← hX1]; simp
  generalize hX2 : World.alloc X1 _ = X2
  have bX2 : Below X1.heap.size X1 X2 := by rw [← hX2]; exact bal X1 _
  have bB : Blk X2 (w.heap.size + 1) [.int .i64 0, .string ⟨#[]⟩, .bool false] 53 := by rw [← hX2, ← zX]; exact Blk.newA X1 _ rfl
  have bA := bA_0.later bX2
  have HB := hide (below2 bX1 bX2)
  clear hX1 hX2 bX1 bX2 bA_0 zX
  refine (HP.out X2).mono ?_
  rintro e w1 ⟨rfl, hw1⟩
  obtain rfl := hw1
  have a1 := bA.cell 1 rfl
  have a2 := bA.cell 2 rfl
  have a0 := bA.cell 0 rfl
  have f0 := bA.frozen 0
  have f1 := bA.frozen 1
  have g0 := bB.frozen 0
  have g1 := bB.frozen 1
  have g2 := bB.frozen 2
  go_wp2_with fail
  refine (HC.out _).mono ?_
  rintro e w2 ⟨rfl, hw2⟩
  have bA2 : Blk w2 w.heap.size [.int .i64 o, .string ps, .bool py] 53 := by rw [← hw2]; exact bA.set 0 _
  have bB2 : Blk w2 (w.heap.size + 1) [.int .i64 0, .string ⟨#[]⟩, .bool false] 53 := by rw [← hw2]; exact bB.other (by omega) _ _
  have HB2 : Hid (Below w.heap.size w w2) := hide (by rw [← hw2]; exact HB.out.setCell (p := ⟨w.heap.size, 0, none⟩) (Nat.le_refl _) _)
  clear hw2 a0 a1 a2 f0 f1 g0 g1 g2 bA bB HB
  have f1 := bA2.frozen 1
  have g0 := bB2.frozen 0
  have g1 := bB2.frozen 1
  have g2 := bB2.frozen 2
  have a0 := bA2.cell 0 rfl
  have a1 := bA2.cell 1 rfl
  have a2 := bA2.cell 2 rfl
  have b0 := bB2.cell 0 rfl
  have b1 := bB2.cell 1 rfl
  have b2 := bB2.cell 2 rfl
  go_wp2_with fail
  have hC := (((bB2.other (c := w.heap.size) (by omega) 1 (.string t)).set 0 (.int .i64 o)).set 1 (.string t)).set 2 (.bool py)
  refine bodyPost_ret (results_cell_row (p := 4) rfl _ _ (w.heap.size + 1) _ _ _ _ rfl hC Try.underlying53 rfl (by kernel_rfl)) rfl ?_
  refine ⟨rfl, ?_⟩
  repeat refine Below.setCell ?_ (Nat.le_succ _) _
  exact HB2.out.setCell (p := ⟨w.heap.size, 1, none⟩) (Nat.le_refl _) _
theorem splice_step {l : List UInt8} {o k : Nat} {s : List UInt8} (h : o + s.length ≤ l.length) (hk : k < s.length) : splice l o (s.take (k + 1)) = (splice l o (s.take k)).set (o + k) (s.getD k 0) := by
  rw [take_succ' s k 0 hk]
  unfold splice
  have h1 : (s.take k).length = k := by simp; omega
  have h2 : (l.take o).length = o := by simp; omega
  rw [List.length_append, h1]
  have h3 : l.drop (o + k) = l.getD (o + k) 0 :: l.drop (o + (k + 1)) := by
    rw [List.drop_eq_getElem_cons (by omega), List.getD_eq_getElem?_getD, List.getElem?_eq_getElem (by omega)]; rfl
  rw [h3, List.append_assoc, List.set_append_right _ _ (by omega), h2, Nat.add_sub_cancel_left, List.set_append_right _ _ (by omega), h1, Nat.sub_self, List.set_cons_zero]
  simp
theorem bytes_at (l : List UInt8) (i : Nat) (h : i < l.length) : (bytesV l)[i]? = some (byteV (l.getD i 0)) := by
  unfold bytesV
  rw [List.getElem?_map, List.getD_eq_getElem?_getD, List.getElem?_eq_getElem h]; rfl
theorem bytes_set (l : List UInt8) (i : Nat) (b : UInt8) : bytesV (l.set i b) = (bytesV l).set i (byteV b) := by
  unfold bytesV; rw [List.map_set]
set_option maxRecDepth 20000 in
set_option maxHeartbeats 1000000 in
theorem put_any (g o : Nat) (s : ByteArray) (l : List UInt8) (c : Nat) (w : World) (h : Blk w g (bytesV l) 5) (ho : o + s.size ≤ l.length) (hl : l.length ≤ 4194304) :
    Calls Try.prog 27 #[.slice (some ⟨g, 0, none⟩) l.length c, .int .i64 o, .string s] w (BytesQ g (splice l o s.data.toList) w) := by
  go_enter Try.func27, Try.ntmps27
  go_wp2_with fail
  go_loopw [6] (fun i wr => ∃ k : Nat, k ≤ s.size ∧ i = .int .i64 k ∧ Blk wr g (bytesV (splice l o (s.data.toList.take k))) 5 ∧ Eff (· = g) w wr) (fun i _ => s.size - (intOf i).toNat)
  case atStart => exact ⟨0, by omega, rfl, by simpa [splice_nil] using h, Eff.refl _ _⟩
  case round =>
    obtain ⟨k, hk, rfl, hG, hE⟩ := hrel
    have hss : (s.size : Int) ≤ 4194304 := by omega
    by_cases hlt : k < s.size
    · have hc : wr.cell? ⟨g, o + k, none⟩ = some (byteV ((splice l o (s.data.toList.take k)).getD (o + k) 0)) := hG.cell (o + k) (by rw [bytes_at _ _ (by rw [length_splice _ _ _ (by simp; omega)]; omega)])
      have hc' : wr.cell? ⟨g, o + k, none⟩ = some (.int .u8 (((splice l o (s.data.toList.take k)).getD (o + k) 0).toNat : Int)) := hc
      have hf := hG.frozen (o + k)
      have HST := hide (splice_step (l := l) (o := o) (k := k) (s := s.data.toList) (by simpa using ho) (by simpa using hlt))
      have hkl : o + k < l.length := by omega
      generalize (splice l o (s.data.toList.take k)).getD (o + k) 0 = z at hc hc'
      clear hc
      go_wp2_with fail
      go_roundw
      case rel => 
        refine ⟨k + 1, by omega, by go_num, ?_, hE.trans (Eff.setCell _ _ _ _)⟩
        rw [HST.out, bytes_set]
        have e : byteV (s.data.toList.getD k 0) = .int .u8 (s[k].toNat : Int) := by
          unfold byteV
          rw [List.getD_eq_getElem?_getD, List.getElem?_eq_getElem (by simpa using hlt)]; rfl
        rw [e]
        exact hG.set (o + k) _
      case measure => simp [intOf]; omega
    · obtain rfl : k = s.size := by omega
      rw [List.take_of_length_le (by simp)] at hG
      go_wp2_with fail
      go_end0
      exact ⟨rfl, hG, hE⟩
end Go.Proofs.Ytednelejpkchbaa
