/- The reference's disk: walks of Sync, Cut, Read, has, Crash. Conditions: how it lies in memory; sizes. -/
import Derived.Test.YtednelejpkchbaaRnC
namespace Go.Proofs.Ytednelejpkchbaa
open Go.RowKit

set_option maxRecDepth 20000 in
set_option maxHeartbeats 1000000 in
theorem rsync_down (X : Nat) (sv lv : Value) (r : RefD) (w : World) (h : RefAt w X sv lv r) (hd : r.down = true) :
    Calls Try.prog 31 #[.pointer (some ⟨X, 0, none⟩)] w (RefQ 361 r X sv lv w) := by
  obtain ⟨su, pe, dn, le⟩ := r
  obtain ⟨hX, hS, hL⟩ := id h
  have c0 := hX.cell 0 rfl
  have c1 := hX.cell 1 rfl
  have c2 : w.cell? ⟨X, 2, none⟩ = some (.bool dn) := hX.cell 2 rfl
  have c3 : w.cell? ⟨X, 3, none⟩ = some (.int .i64 le) := hX.cell 3 rfl
  have f0 := hX.frozen 0
  have f1 := hX.frozen 1
  have f2 := hX.frozen 2
  have f3 := hX.frozen 3
  obtain rfl : dn = true := hd
  have HA := hide h
  clear hX hS hL h
  go_enter Try.func31, Try.ntmps31
  go_wp2
  go_ret
  exact refq_same HA.out
set_option maxRecDepth 20000 in
set_option maxHeartbeats 1000000 in
theorem rsync_on (n X : Nat) (sv lv : Value) (r : RefD) (w : World) (h : RefAt w X sv lv r) (hok : RefOk n r) (hn1 : 1 ≤ n) (hn : n ≤ 4194304) (hpl : r.pend.length < 1000000) (hd : r.down = false) :
    Calls Try.prog 31 #[.pointer (some ⟨X, 0, none⟩)] w (RefQ 0 ⟨replay r.sure r.pend, [], r.down, r.left⟩ X sv lv w) := by
  have HV := hide (visible_any n X sv lv r w h hok hn1 hn hpl)
  have HRL := hide (replay_len r.pend r.sure hok.sure hok.pend)
  obtain ⟨su, pe, dn, le⟩ := r
  obtain ⟨hX, hS, hL⟩ := id h
  have c0 := hX.cell 0 rfl
  have c1 := hX.cell 1 rfl
  have c2 : w.cell? ⟨X, 2, none⟩ = some (.bool dn) := hX.cell 2 rfl
  have c3 : w.cell? ⟨X, 3, none⟩ = some (.int .i64 le) := hX.cell 3 rfl
  have f0 := hX.frozen 0
  have f1 := hX.frozen 1
  have f2 := hX.frozen 2
  have f3 := hX.frozen 3
  obtain rfl : dn = false := hd
  have HA := hide h
  have HXB := hide hX
  clear hX hS hL h hok hpl
  go_enter Try.func31, Try.ntmps31
  go_wp2_with fail
  refine HV.out.mono ?_
  rintro e w1 ⟨v, rfl, hv, hb⟩
  have hX1 := HXB.out.later hb
  have g0 := hX1.cell 0 rfl
  have g1 := hX1.cell 1 rfl
  have k0 := hX1.frozen 0
  have k1 := hX1.frozen 1
  obtain ⟨W1, rfl⟩ : ∃ W, W = w1 := ⟨_, rfl⟩
  have hRl : (replay su pe).length = n := HRL.out
  obtain ⟨gv, gc, rfl, hgw, -, -⟩ := hv.form (by show 0 < (replay su pe).length; omega)
  have hv' : OwnU W1 w.heap.size (.slice (some ⟨gv, 0, none⟩) n gc) (replay su pe) := by rw [← hRl]; exact hv
  rw [hRl]
  clear c0 c1 c2 c3 f0 f1 f2 f3 hv hRl HRL
  go_wp2_with fail
  go_ret
  have hES : Eff (· = X) W1 ((W1.setCell ⟨X, 0, none⟩ (.slice (some ⟨gv, 0, none⟩) n gc)).setCell ⟨X, 1, none⟩ (.slice none 0 0)) := (Eff.setCell _ _ _ _).trans (Eff.setCell _ _ _ _)
  refine ⟨rfl, .slice (some ⟨gv, 0, none⟩) n gc, .slice none 0 0, ⟨(hX1.set 0 _).set 1 (.slice none 0 0), ?_, OwnR.nil _ _ _ _⟩, ?_, .inr (fun g hg => (hv'.heap hg).1), .inr (fun g hg => by cases hg)⟩
  · have h1 : OwnU W1 0 (.slice (some ⟨gv, 0, none⟩) n gc) (replay su pe) := OwnU.mono hv' (Nat.zero_le _)
    exact h1.eff hES (fun g hg e => hv'.neT hX1 (by decide) (by rw [hg, show g = X from e]))
  · exact (Eff.of_below hb _).trans (hES.mono fun k _ hk => .inl hk)
def cutR (r : RefD) (c : Int) : RefD := ⟨r.sure, r.pend, decide (c = 0), c⟩
set_option maxRecDepth 20000 in
set_option maxHeartbeats 1000000 in
theorem rcut_down (X : Nat) (sv lv : Value) (r : RefD) (c : Int) (w : World) (h : RefAt w X sv lv r) (hd : r.down = true) :
    Calls Try.prog 32 #[.pointer (some ⟨X, 0, none⟩), .int .i64 c] w (RefQ 361 r X sv lv w) := by
  obtain ⟨su, pe, dn, le⟩ := r
  obtain ⟨hX, hS, hL⟩ := id h
  have c0 := hX.cell 0 rfl
  have c1 := hX.cell 1 rfl
  have c2 : w.cell? ⟨X, 2, none⟩ = some (.bool dn) := hX.cell 2 rfl
  have c3 : w.cell? ⟨X, 3, none⟩ = some (.int .i64 le) := hX.cell 3 rfl
  have f0 := hX.frozen 0
  have f1 := hX.frozen 1
  have f2 := hX.frozen 2
  have f3 := hX.frozen 3
  obtain rfl : dn = true := hd
  have HA := hide h
  clear hX hS hL h
  go_enter Try.func32, Try.ntmps32
  go_wp2
  go_ret
  exact refq_same HA.out
set_option maxRecDepth 20000 in
set_option maxHeartbeats 1000000 in
theorem rcut_neg (X : Nat) (sv lv : Value) (r : RefD) (c : Int) (w : World) (h : RefAt w X sv lv r) (hd : r.down = false) (hc : c < 0) :
    Calls Try.prog 32 #[.pointer (some ⟨X, 0, none⟩), .int .i64 c] w (RefQ 2 r X sv lv w) := by
  obtain ⟨su, pe, dn, le⟩ := r
  obtain ⟨hX, hS, hL⟩ := id h
  have c0 := hX.cell 0 rfl
  have c1 := hX.cell 1 rfl
  have c2 : w.cell? ⟨X, 2, none⟩ = some (.bool dn) := hX.cell 2 rfl
  have c3 : w.cell? ⟨X, 3, none⟩ = some (.int .i64 le) := hX.cell 3 rfl
  have f0 := hX.frozen 0
  have f1 := hX.frozen 1
  have f2 := hX.frozen 2
  have f3 := hX.frozen 3
  obtain rfl : dn = false := hd
  have HA := hide h
  clear hX hS hL h
  go_enter Try.func32, Try.ntmps32
  go_wp2
  go_ret
  exact refq_same HA.out
set_option maxRecDepth 20000 in
set_option maxHeartbeats 1000000 in
theorem rcut_on (X : Nat) (sv lv : Value) (r : RefD) (c : Int) (w : World) (h : RefAt w X sv lv r) (hd : r.down = false) (hc : 0 ≤ c) :
    Calls Try.prog 32 #[.pointer (some ⟨X, 0, none⟩), .int .i64 c] w (RefQ 0 (cutR r c) X sv lv w) := by
  obtain ⟨su, pe, dn, le⟩ := r
  obtain ⟨hX, hS, hL⟩ := id h
  have c0 := hX.cell 0 rfl
  have c1 := hX.cell 1 rfl
  have c2 : w.cell? ⟨X, 2, none⟩ = some (.bool dn) := hX.cell 2 rfl
  have c3 : w.cell? ⟨X, 3, none⟩ = some (.int .i64 le) := hX.cell 3 rfl
  have f0 := hX.frozen 0
  have f1 := hX.frozen 1
  have f2 := hX.frozen 2
  have f3 := hX.frozen 3
  obtain rfl : dn = false := hd
  have HA := hide h
  have HX := hide hX
  have e1 : decide (c < 0) = false := decide_eq_false (by omega)
  have HXS := hide (hS.neT hX (by decide))
  have HXL := hide (hL.neT hX (by decide))
  by_cases h0 : c = 0
  · have e2 : (c == 0) = true := by simpa using h0
    have H0 := hide h0
    clear hX hS hL h h0
    go_enter Try.func32, Try.ntmps32
    go_wp2
    go_ret
    have hES : Eff (· = X) w ((w.setCell ⟨X, 3, none⟩ (.int .i64 c)).setCell ⟨X, 2, none⟩ (.bool true)) := (Eff.setCell _ _ _ _).trans (Eff.setCell _ _ _ _)
    have hd0 : decide (c = 0) = true := by simp [H0.out]
    refine ⟨rfl, sv, lv, ⟨?_, HA.out.hS.eff hES (fun g hg e => HXS.out (by rw [hg, show g = X from e])), HA.out.hL.eff hES (fun g hg e => HXL.out (by rw [hg, show g = X from e]))⟩, hES.mono fun k _ hk => .inl hk, .inl rfl, .inl rfl⟩
    show Blk _ X [sv, lv, .bool (decide (c = 0)), .int .i64 c] _
    rw [hd0]
    exact (HX.out.set 3 (.int .i64 c)).set 2 (.bool true)
  · have e2 : (c == 0) = false := by simpa using h0
    have H0 := hide h0
    clear hX hS hL h h0
    go_enter Try.func32, Try.ntmps32
    go_wp2
    go_ret
    have hES : Eff (· = X) w ((w.setCell ⟨X, 3, none⟩ (.int .i64 c)).setCell ⟨X, 2, none⟩ (.bool false)) := (Eff.setCell _ _ _ _).trans (Eff.setCell _ _ _ _)
    have hd0 : decide (c = 0) = false := by simp [H0.out]
    refine ⟨rfl, sv, lv, ⟨?_, HA.out.hS.eff hES (fun g hg e => HXS.out (by rw [hg, show g = X from e])), HA.out.hL.eff hES (fun g hg e => HXL.out (by rw [hg, show g = X from e]))⟩, hES.mono fun k _ hk => .inl hk, .inl rfl, .inl rfl⟩
    show Blk _ X [sv, lv, .bool (decide (c = 0)), .int .i64 c] _
    rw [hd0]
    exact (HX.out.set 3 (.int .i64 c)).set 2 (.bool false)
/-- the call returns a string and a number, and turns nothing that was there -/
def RStrQ (s : ByteArray) (k : Int) (w : World) (e : Ending) (w' : World) : Prop := e = .returned (.tuple #[.string s, .int .i64 k]) ∧ Below w.heap.size w w'
set_option maxRecDepth 20000 in
set_option maxHeartbeats 1000000 in
theorem rread_down (X : Nat) (sv lv : Value) (r : RefD) (off k : Int) (w : World) (h : RefAt w X sv lv r) (hd : r.down = true) :
    Calls Try.prog 20 #[.pointer (some ⟨X, 0, none⟩), .int .i64 off, .int .i64 k] w (RStrQ ⟨#[]⟩ 361 w) := by
  obtain ⟨su, pe, dn, le⟩ := r
  obtain ⟨hX, hS, hL⟩ := id h
  have c0 := hX.cell 0 rfl
  have c1 := hX.cell 1 rfl
  have c2 : w.cell? ⟨X, 2, none⟩ = some (.bool dn) := hX.cell 2 rfl
  have c3 : w.cell? ⟨X, 3, none⟩ = some (.int .i64 le) := hX.cell 3 rfl
  have f0 := hX.frozen 0
  have f1 := hX.frozen 1
  have f2 := hX.frozen 2
  have f3 := hX.frozen 3
  obtain rfl : dn = true := hd
  clear hX hS hL h
  go_enter Try.func20, Try.ntmps20
  go_wp2
  go_ret2
  exact ⟨rfl, Below.refl _ _⟩
set_option maxRecDepth 20000 in
set_option maxHeartbeats 1000000 in
theorem rread_out (n X : Nat) (sv lv : Value) (r : RefD) (off k : Int) (w : World) (h : RefAt w X sv lv r) (hok : RefOk n r) (hn1 : 1 ≤ n) (hn : n ≤ 4194304) (hd : r.down = false) (h64 : i64B off) (hin : insideB n off k = false) :
    Calls Try.prog 20 #[.pointer (some ⟨X, 0, none⟩), .int .i64 off, .int .i64 k] w (RStrQ ⟨#[]⟩ 360 w) := by
  obtain ⟨su, pe, dn, le⟩ := r
  obtain ⟨hX, hS, hL⟩ := id h
  have c0 := hX.cell 0 rfl
  have c1 := hX.cell 1 rfl
  have c2 : w.cell? ⟨X, 2, none⟩ = some (.bool dn) := hX.cell 2 rfl
  have c3 : w.cell? ⟨X, 3, none⟩ = some (.int .i64 le) := hX.cell 3 rfl
  have f0 := hX.frozen 0
  have f1 := hX.frozen 1
  have f2 := hX.frozen 2
  have f3 := hX.frozen 3
  obtain rfl : dn = false := hd
  have hsl : su.length = n := hok.sure
  obtain ⟨gs, cs, rfl, -, -, -⟩ := hS.form (by show 0 < su.length; omega)
  have c0' : w.cell? ⟨X, 0, none⟩ = some (.slice (some ⟨gs, 0, none⟩) n cs) := by rw [← hsl]; exact c0
  obtain ⟨b1, b2⟩ := h64
  have hcase : off < 0 ∨ (0 ≤ off ∧ k < 0) ∨ (0 ≤ off ∧ 0 ≤ k ∧ (n : Int) < off) ∨ (0 ≤ off ∧ 0 ≤ k ∧ off ≤ n ∧ (n : Int) - off < k) := by
    unfold insideB at hin; simp at hin; omega
  clear hX hS hL h c0 hok hsl hin
  rcases hcase with h1 | ⟨h0, h1⟩ | ⟨h0, h0', h1⟩ | ⟨h0, h0', h1, h2⟩
  · skip
    go_enter Try.func20, Try.ntmps20
    go_wp2
    go_ret2
    exact ⟨rfl, Below.refl _ _⟩
  · have e1 : decide (off < 0) = false := decide_eq_false (by omega)
    go_enter Try.func20, Try.ntmps20
    go_wp2
    go_ret2
    exact ⟨rfl, Below.refl _ _⟩
  · have e1 : decide (off < 0) = false := decide_eq_false (by omega)
    have e2 : decide (k < 0) = false := decide_eq_false (by omega)
    go_enter Try.func20, Try.ntmps20
    go_wp2
    go_ret2
    exact ⟨rfl, Below.refl _ _⟩
  · have e1 : decide (off < 0) = false := decide_eq_false (by omega)
    have e2 : decide (k < 0) = false := decide_eq_false (by omega)
    have e3 : decide ((n : Int) < off) = false := decide_eq_false (by omega)
    go_enter Try.func20, Try.ntmps20
    go_wp2
    go_ret2
    exact ⟨rfl, Below.refl _ _⟩
theorem run_cut2 (g n c o k : Nat) (h : o + k ≤ n) (hc : n ≤ c) (w : World) : (Instr.slice 40 (.slice (some ⟨g, 0, none⟩) n c) (some (.int .i64 (o : Int))) (some (.int .i64 ((o : Int) + (k : Int)))) none).run Try.prog w = .ok (.slice (some ⟨g, cutAt c o, none⟩) k (c - o)) w := by
  have hu := Try.underlying40
  have b1 := run_sliceBound (P := Try.prog) (w := w) .i64 ((o : Int) + (k : Int)) c .sliceAcap (by omega) (by omega)
  have e : ((o : Int) + (k : Int)).toNat = o + k := by omega
  rw [e] at b1
  have b2 := run_sliceBound (P := Try.prog) (w := w) .i64 (o : Int) (o + k) .sliceB (by omega) (by omega)
  rw [Int.toNat_natCast] at b2
  simp [Instr.slice, run_underlying hu, Instr.sliceBounds, cutAt, b1, b2, Addr.add]
  by_cases h0 : c = o
  · simp [h0]
  · simp [h0]; exact fun h => h.symm
set_option maxRecDepth 20000 in
set_option maxHeartbeats 1000000 in
theorem rread_in (n X : Nat) (sv lv : Value) (r : RefD) (off k : Nat) (w : World) (h : RefAt w X sv lv r) (hok : RefOk n r) (hn1 : 1 ≤ n) (hn : n ≤ 4194304) (hpl : r.pend.length < 1000000) (hd : r.down = false) (hin : off + k ≤ n) :
    Calls Try.prog 20 #[.pointer (some ⟨X, 0, none⟩), .int .i64 off, .int .i64 k] w (RStrQ ⟨(((replay r.sure r.pend).drop off).take k).toArray⟩ 0 w) := by
  have HV := hide (visible_any n X sv lv r w h hok hn1 hn hpl)
  have HRL := hide (replay_len r.pend r.sure hok.sure hok.pend)
  obtain ⟨su, pe, dn, le⟩ := r
  obtain ⟨hX, hS, hL⟩ := id h
  have c0 := hX.cell 0 rfl
  have c1 := hX.cell 1 rfl
  have c2 : w.cell? ⟨X, 2, none⟩ = some (.bool dn) := hX.cell 2 rfl
  have c3 : w.cell? ⟨X, 3, none⟩ = some (.int .i64 le) := hX.cell 3 rfl
  have f0 := hX.frozen 0
  have f1 := hX.frozen 1
  have f2 := hX.frozen 2
  have f3 := hX.frozen 3
  obtain rfl : dn = false := hd
  have hsl : su.length = n := hok.sure
  obtain ⟨gs, cs, rfl, -, -, -⟩ := hS.form (by show 0 < su.length; omega)
  have c0' : w.cell? ⟨X, 0, none⟩ = some (.slice (some ⟨gs, 0, none⟩) n cs) := by rw [← hsl]; exact c0
  have e1 : decide ((off : Int) < 0) = false := decide_eq_false (by omega)
  have e2 : decide ((k : Int) < 0) = false := decide_eq_false (by omega)
  have e3 : decide ((n : Int) < (off : Int)) = false := decide_eq_false (by omega)
  have e4 : decide ((n : Int) - (off : Int) < (k : Int)) = false := decide_eq_false (by omega)
  change Calls _ _ _ _ (RStrQ ⟨(((replay su pe).drop off).take k).toArray⟩ 0 w)
  generalize hR : replay su pe = R at HV HRL ⊢
  generalize hT : (R.drop off).take k = T
  have HT := hide hT
  clear hX hS hL h c0 hok hsl hpl hR hT
  go_enter Try.func20, Try.ntmps20
  go_wp2_with fail
  refine HV.out.mono ?_
  rintro e w1 ⟨v, rfl, hv, hb⟩
  obtain ⟨g, c, rfl, -, hgc, hgc2⟩ := hv.form (by rw [show R.length = n from HRL.out]; omega)
  have hRl : R.length = n := HRL.out
  have hcut := run_cut2 g n c off k hin (by omega)
  have hlen : ((R.drop off).take k).length = k := by simp; omega
  have hconv := run_bytes g (cutAt c off) k (c - off) ((R.drop off).take k) hlen w1 (fun j hj => by
    have hj' : j < k := by rw [hlen] at hj; exact hj
    rw [cut_cells (m := k) (by omega) (by omega)]
    have h1 : ((R.drop off).take k).getD j 0 = R.getD (off + j) 0 := by
      rw [List.getD_eq_getElem?_getD, List.getD_eq_getElem?_getD, List.getElem?_take, if_pos (by omega), List.getElem?_drop]
    rw [h1]
    exact hv.cell (off + j) (by omega))
  rw [hRl]
  have hck : (off : Int) + (k : Int) ≤ 4194304 := by omega
  rw [HT.out] at hconv hlen
  generalize cutAt c off = p at hcut hconv
  generalize c - off = q at hcut hconv
  clear hv hgc hgc2 hRl HRL HV c0' c1 c2 c3 f0 f1 f2 f3
  go_wp2_with fail
  go_ret2
  exact ⟨rfl, hb⟩
end Go.Proofs.Ytednelejpkchbaa
