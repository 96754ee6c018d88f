/- The reference's disk: walks of Write, Read. Conditions: how it lies in memory; sizes. -/
import Derived.Test.YtednelejpkchbaaRnB
import Derived.Test.YtednelejpkchbaaPlM
namespace Go.Proofs.Ytednelejpkchbaa
open Go.RowKit

/-- one record, appended -/
theorem app_recE {w : World} {ops : Array Oper} {rest : List Oper} {o : Oper} {a : Act} {Q : Exit → Act → World → Prop} {e t : TypeId} {k by_ : Nat} {z : Value}
    (hinfo : (Try.prog.info? e).map (fun i => (i.zero, i.size, i.bytes)) = some (some z, k, by_)) (hzk : z.cells.size = k) (hk : 0 < k) (hu : Try.prog.underlying t = some (.slice e)) (hgd : o.guard = none) (s x : Operand)
    (ho : o.op = .call { callee := .builtin .append, args := #[s, x], argTypes := #[t, t] }) (B : Nat) (v : Value) (L : List (List Value)) (hs : a.eval s = v) (hown : OwnR w B e k v L) (r : List Value) (hrk : r.length = k)
    (h1 : ∀ u ∈ r, u.oneCell' = true) (nb : Nat) (hx : a.eval x = .slice (some ⟨nb, 0, none⟩) 1 1) (hnb : nb = w.heap.size) (hlen : (L.length + 1) * by_ ≤ 140737488355328) (hlen2 : L.length < 1000000) (hB : B ≤ w.heap.size)
    (h : ∀ v' w', OwnR w' B e k v' (L ++ [r]) → Eff (fun k => some k = v.ownBlock) w w' → (v'.ownBlock = v.ownBlock ∨ ∀ g, v'.ownBlock = some g → w.heap.size ≤ g) → wpList Try.prog ops Q rest (a.put o.dst v') w') :
    wpList Try.prog ops Q (o :: rest) a (w.alloc (.cells r.toArray e)) := by
  subst hnb
  obtain ⟨i0, hi, hz0, hz1, hz2⟩ := info_parts hinfo
  have hnews : ∀ j u, r[j]? = some u → (w.alloc (.cells r.toArray e)).cell? ((⟨w.heap.size, 0, none⟩ : Addr).add j) = some u := fun j u hj => by
    have := (Blk.new w r e).cell j hj
    cases j <;> simpa [Addr.add] using this
  obtain ⟨v', w', hrun, h2, h3, -, h5⟩ := run_append_own_at (P := Try.prog) (w.alloc (.cells r.toArray e)) B t o.type e i0 z k by_ hu hi hz0 hz1 hz2 hzk hk v L.length L.flatten (World.ownsRow.alloc hown.1 _)
    ⟨w.heap.size, 0, none⟩ 1 1 r (by rw [hrk]; omega) hnews h1 (by unfold maxLen; omega) hlen (by simp; omega)
  refine wpList_plain hgd fun K hK => ?_
  unfold Oper.wp execOp
  simp only [ho, resolve, invoke, builtin, Sem.run_bind, Sem.run_pure, Result.andThen_ok, List.map_toArray, List.map_cons, List.map_nil, hs, hx, hrun]
  refine hK _ _ (h v' w' ⟨by simpa using h2, fun q hq => ?_⟩ ⟨h3.os, h3.tape, h3.output, by have := h3.size; simp at this; omega, fun b hb hn => ?_⟩ (h5.imp id fun e g hg => by rw [e] at hg; cases hg; simp))
  · rcases List.mem_append.1 hq with h2 | h2
    · exact hown.2 q h2
    · simp at h2; rw [h2, hrk]
  · rw [h3.block b (by simp; omega) hn, Below.heap_alloc _ _ _ hb]
theorem infoChange : (Try.prog.info? 80).map (fun i => (i.zero, i.size, i.bytes)) = some (some (.agg #[.int .i64 0, .string ⟨#[]⟩]), 2, 24) := by kernel_rfl
/-- the call returns a number; the reference's disk is r' now -/
def RefQ (k : Int) (r' : RefD) (X : Nat) (sv lv : Value) (w : World) (e : Ending) (w' : World) : Prop :=
  e = .returned (.int .i64 k) ∧ ∃ sv' lv', RefAt w' X sv' lv' r' ∧ Eff (RSet X sv lv) w w' ∧ (sv'.ownBlock = sv.ownBlock ∨ ∀ g, sv'.ownBlock = some g → w.heap.size ≤ g) ∧ (lv'.ownBlock = lv.ownBlock ∨ ∀ g, lv'.ownBlock = some g → w.heap.size ≤ g)
def leftR (r : RefD) : RefD := if 0 < r.left then ⟨r.sure, r.pend, if r.left - 1 = 0 then true else r.down, r.left - 1⟩ else r
def putR (r : RefD) (o : Nat) (s : List UInt8) : RefD := ⟨r.sure, r.pend ++ [((o : Int), s)], r.down, r.left⟩
theorem refq_same {k : Int} {r : RefD} {X : Nat} {sv lv : Value} {w : World} (h : RefAt w X sv lv r) : RefQ k r X sv lv w (.returned (.int .i64 k)) w := ⟨rfl, sv, lv, h, Eff.refl _ _, .inl rfl, .inl rfl⟩
set_option maxRecDepth 20000 in
set_option maxHeartbeats 1000000 in
theorem rwrite_down (X : Nat) (sv lv : Value) (r : RefD) (off : Int) (s : ByteArray) (w : World) (h : RefAt w X sv lv r) (hd : r.down = true) :
    Calls Try.prog 30 #[.pointer (some ⟨X, 0, none⟩), .int .i64 off, .string s] w (RefQ 361 r X sv lv w) := by
  obtain ⟨su, pe, dn, le⟩ := r
  obtain ⟨hX, hS, hL⟩ := id h
  have c0 := hX.cell 0 rfl
  have c1 := hX.cell 1 rfl
  have c2 : w.cell? ⟨X, 2, none⟩ = some (.bool dn) := hX.cell 2 rfl
  have c3 : w.cell? ⟨X, 3, none⟩ = some (.int .i64 le) := hX.cell 3 rfl
  have f0 := hX.frozen 0
  have f1 := hX.frozen 1
  have f2 := hX.frozen 2
  have f3 := hX.frozen 3
  obtain rfl : dn = true := hd
  have HA := hide h
  clear hX hS hL h
  go_enter Try.func30, Try.ntmps30
  go_wp2
  go_ret
  exact refq_same HA.out
set_option maxRecDepth 20000 in
set_option maxHeartbeats 1000000 in
theorem rwrite_out (n X : Nat) (sv lv : Value) (r : RefD) (off : Int) (s : ByteArray) (w : World) (h : RefAt w X sv lv r) (hok : RefOk n r) (hn1 : 1 ≤ n) (hn : n ≤ 4194304) (hd : r.down = false) (h64 : i64B off) (hs : (s.size : Int) ≤ 9223372036854775807) (hin : insideB n off s.size = false) :
    Calls Try.prog 30 #[.pointer (some ⟨X, 0, none⟩), .int .i64 off, .string s] w (RefQ 360 r X sv lv w) := by
  obtain ⟨su, pe, dn, le⟩ := r
  obtain ⟨hX, hS, hL⟩ := id h
  have c0 := hX.cell 0 rfl
  have c1 := hX.cell 1 rfl
  have c2 : w.cell? ⟨X, 2, none⟩ = some (.bool dn) := hX.cell 2 rfl
  have c3 : w.cell? ⟨X, 3, none⟩ = some (.int .i64 le) := hX.cell 3 rfl
  have f0 := hX.frozen 0
  have f1 := hX.frozen 1
  have f2 := hX.frozen 2
  have f3 := hX.frozen 3
  obtain rfl : dn = false := hd
  have hsl : su.length = n := hok.sure
  obtain ⟨gs, cs, rfl, -, -, -⟩ := hS.form (by show 0 < su.length; omega)
  have HA := hide h
  have c0' : w.cell? ⟨X, 0, none⟩ = some (.slice (some ⟨gs, 0, none⟩) n cs) := by rw [← hsl]; exact c0
  obtain ⟨b1, b2⟩ := h64
  have hcase : off < 0 ∨ (n : Int) < off ∨ (0 ≤ off ∧ off ≤ n ∧ (n : Int) - off < s.size) := by
    unfold insideB at hin; simp at hin; omega
  clear hX hS hL h c0 hok hsl hin
  rcases hcase with h1 | h1 | ⟨h1, h2, h3⟩
  · go_enter Try.func30, Try.ntmps30
    go_wp2
    go_ret
    exact refq_same HA.out
  · have e1 : decide (off < 0) = false := decide_eq_false (by omega)
    go_enter Try.func30, Try.ntmps30
    go_wp2
    go_ret
    exact refq_same HA.out
  · have e1 : decide (off < 0) = false := decide_eq_false (by omega)
    have e2 : decide ((n : Int) < off) = false := decide_eq_false (by omega)
    go_enter Try.func30, Try.ntmps30
    go_wp2
    go_ret
    exact refq_same HA.out
set_option maxRecDepth 20000 in
set_option maxHeartbeats 1000000 in
theorem rwrite_in (n X : Nat) (sv lv : Value) (r : RefD) (off : Nat) (s : ByteArray) (w : World) (h : RefAt w X sv lv r) (hok : RefOk n r) (hn1 : 1 ≤ n) (hn : n ≤ 4194304) (hd : r.down = false) (hin : off + s.size ≤ n) (hpl : r.pend.length < 1000000) :
    Calls Try.prog 30 #[.pointer (some ⟨X, 0, none⟩), .int .i64 off, .string s] w (RefQ 0 (leftR (putR r off s.data.toList)) X sv lv w) := by
  obtain ⟨su, pe, dn, le⟩ := r
  obtain ⟨hX, hS, hL⟩ := id h
  have c0 := hX.cell 0 rfl
  have c1 := hX.cell 1 rfl
  have c2 : w.cell? ⟨X, 2, none⟩ = some (.bool dn) := hX.cell 2 rfl
  have c3 : w.cell? ⟨X, 3, none⟩ = some (.int .i64 le) := hX.cell 3 rfl
  have f0 := hX.frozen 0
  have f1 := hX.frozen 1
  have f2 := hX.frozen 2
  have f3 := hX.frozen 3
  obtain rfl : dn = false := hd
  have hsl : su.length = n := hok.sure
  obtain ⟨gs, cs, rfl, -, -, -⟩ := hS.form (by show 0 < su.length; omega)
  have HA := hide h
  have c0' : w.cell? ⟨X, 0, none⟩ = some (.slice (some ⟨gs, 0, none⟩) n cs) := by rw [← hsl]; exact c0
  have e1 : decide ((off : Int) < 0) = false := decide_eq_false (by omega)
  have e2 : decide ((n : Int) < (off : Int)) = false := decide_eq_false (by omega)
  have e3 : decide ((n : Int) - (off : Int) < (s.size : Int)) = false := decide_eq_false (by omega)
  have hle := hok.left
  have HL := hide hL
  have hLl : (pe.map pendCells).length < 1000000 := by simpa using hpl
  have hLl2 : ((pe.map pendCells).length + 1) * 24 ≤ 140737488355328 := by omega
  have hrl : [Value.int .i64 (off : Int), .string s].length = 2 := rfl
  have hone := recOne (off : Int) s
  have hXS := hide (hS.neT hX (by decide))
  have hXL := hide (hL.neT hX (by decide))
  have HX := hide hX
  have HS := hide hS
  have HRR : Hid (leftR (putR ⟨su, pe, false, le⟩ off s.data.toList) = if 0 < le then ⟨su, pe ++ [((off : Int), s.data.toList)], if le - 1 = 0 then true else false, le - 1⟩ else ⟨su, pe ++ [((off : Int), s.data.toList)], false, le⟩) := hide rfl
  have hle' : 0 ≤ le ∧ le ≤ 9223372036854775807 := hle
  clear hX hS hL h c0 hok hsl hpl hle
  by_cases hl0 : 0 < le
  · have e5 : decide (0 < le) = true := decide_eq_true hl0
    by_cases hl1 : le - 1 = 0
    · have e6 : (le - 1 == 0) = true := by simpa using hl1
      have HR : Hid (leftR (putR ⟨su, pe, false, le⟩ off s.data.toList) = ⟨su, pe ++ [((off : Int), s.data.toList)], true, le - 1⟩) := hide (by rw [HRR.out, if_pos hl0, if_pos hl1])
      clear hl0 hl1
      go_enter Try.func30, Try.ntmps30
      go_wp2_with (at_builtin; refine app_recE infoChange rfl (by decide) Try.underlying41 rfl _ _ rfl 0 _ _ rfl HL.out [.int .i64 (off : Int), .string s] hrl hone _ rfl rfl hLl2 hLl (Nat.zero_le _) ?_; intro v' w1 hown1 hE1 hob1; obtain ⟨va, vm, vc, rfl⟩ := hown1.sl; have hX1 := HX.out.eff hE1 (fun e => hXL.out e.symm); have g1 := hX1.cell 1 rfl; have g2 := hX1.cell 2 rfl; have g3 := hX1.cell 3 rfl; have k1 := hX1.frozen 1; have k2 := hX1.frozen 2; have k3 := hX1.frozen 3)
      go_ret
      have hS1 := HS.out.eff hE1 (fun g hg e => by
        obtain ⟨-, cur, hc⟩ := HS.out.heap hg
        rcases HL.out.form with ⟨rfl, -⟩ | ⟨g', c', cur', rfl, -, e3, -⟩
        · cases e
        · have e : some g = some g' := e
          cases e
          have := hc.symm.trans e3; simp at this)
      have hES : Eff (· = X) w1 (((w1.setCell ⟨X, 1, none⟩ (.slice va vm vc)).setCell ⟨X, 3, none⟩ (.int .i64 (le - 1))).setCell ⟨X, 2, none⟩ (.bool true)) := by repeat first | exact Eff.refl _ _ | refine Eff.trans ?_ (Eff.setCell _ _ _ _)
      refine ⟨rfl, _, .slice va vm vc, ⟨?_, ?_, ?_⟩, (hE1.mono fun k _ hk => .inr (.inr hk)).trans (hES.mono fun k _ hk => .inl hk), .inl rfl, hob1⟩
      · rw [HR.out]; exact ((hX1.set 1 (.slice va vm vc)).set 3 (.int .i64 (le - 1))).set 2 (.bool true)
      · rw [HR.out]; exact hS1.eff hES (fun g hg e => hXS.out (by rw [hg, show g = X from e]))
      · rw [HR.out]
        have e : (pe ++ [((off : Int), s.data.toList)]).map pendCells = pe.map pendCells ++ [[.int .i64 (off : Int), .string s]] := by simp [pendCells]
        show OwnR _ 0 _ 2 _ ((pe ++ [((off : Int), s.data.toList)]).map pendCells)
        rw [e]
        exact hown1.eff hES (fun g hg ex => hown1.neT hX1 (by decide) (by rw [hg, show g = X from ex]))
    · have e6 : (le - 1 == 0) = false := by simpa using hl1
      have HR : Hid (leftR (putR ⟨su, pe, false, le⟩ off s.data.toList) = ⟨su, pe ++ [((off : Int), s.data.toList)], false, le - 1⟩) := hide (by rw [HRR.out, if_pos hl0, if_neg hl1])
      clear hl0 hl1
      go_enter Try.func30, Try.ntmps30
      go_wp2_with (at_builtin; refine app_recE infoChange rfl (by decide) Try.underlying41 rfl _ _ rfl 0 _ _ rfl HL.out [.int .i64 (off : Int), .string s] hrl hone _ rfl rfl hLl2 hLl (Nat.zero_le _) ?_; intro v' w1 hown1 hE1 hob1; obtain ⟨va, vm, vc, rfl⟩ := hown1.sl; have hX1 := HX.out.eff hE1 (fun e => hXL.out e.symm); have g1 := hX1.cell 1 rfl; have g2 := hX1.cell 2 rfl; have g3 := hX1.cell 3 rfl; have k1 := hX1.frozen 1; have k2 := hX1.frozen 2; have k3 := hX1.frozen 3)
      go_ret
      have hS1 := HS.out.eff hE1 (fun g hg e => by
        obtain ⟨-, cur, hc⟩ := HS.out.heap hg
        rcases HL.out.form with ⟨rfl, -⟩ | ⟨g', c', cur', rfl, -, e3, -⟩
        · cases e
        · have e : some g = some g' := e
          cases e
          have := hc.symm.trans e3; simp at this)
      have hES : Eff (· = X) w1 ((w1.setCell ⟨X, 1, none⟩ (.slice va vm vc)).setCell ⟨X, 3, none⟩ (.int .i64 (le - 1))) := by repeat first | exact Eff.refl _ _ | refine Eff.trans ?_ (Eff.setCell _ _ _ _)
      refine ⟨rfl, _, .slice va vm vc, ⟨?_, ?_, ?_⟩, (hE1.mono fun k _ hk => .inr (.inr hk)).trans (hES.mono fun k _ hk => .inl hk), .inl rfl, hob1⟩
      · rw [HR.out]; exact (hX1.set 1 (.slice va vm vc)).set 3 (.int .i64 (le - 1))
      · rw [HR.out]; exact hS1.eff hES (fun g hg e => hXS.out (by rw [hg, show g = X from e]))
      · rw [HR.out]
        have e : (pe ++ [((off : Int), s.data.toList)]).map pendCells = pe.map pendCells ++ [[.int .i64 (off : Int), .string s]] := by simp [pendCells]
        show OwnR _ 0 _ 2 _ ((pe ++ [((off : Int), s.data.toList)]).map pendCells)
        rw [e]
        exact hown1.eff hES (fun g hg ex => hown1.neT hX1 (by decide) (by rw [hg, show g = X from ex]))
  · have e5 : decide (0 < le) = false := decide_eq_false hl0
    have HR : Hid (leftR (putR ⟨su, pe, false, le⟩ off s.data.toList) = ⟨su, pe ++ [((off : Int), s.data.toList)], false, le⟩) := hide (by rw [HRR.out, if_neg hl0])
    clear hl0
    go_enter Try.func30, Try.ntmps30
    go_wp2_with (at_builtin; refine app_recE infoChange rfl (by decide) Try.underlying41 rfl _ _ rfl 0 _ _ rfl HL.out [.int .i64 (off : Int), .string s] hrl hone _ rfl rfl hLl2 hLl (Nat.zero_le _) ?_; intro v' w1 hown1 hE1 hob1; obtain ⟨va, vm, vc, rfl⟩ := hown1.sl; have hX1 := HX.out.eff hE1 (fun e => hXL.out e.symm); have g1 := hX1.cell 1 rfl; have g2 := hX1.cell 2 rfl; have g3 := hX1.cell 3 rfl; have k1 := hX1.frozen 1; have k2 := hX1.frozen 2; have k3 := hX1.frozen 3)
    go_ret
    have hS1 := HS.out.eff hE1 (fun g hg e => by
      obtain ⟨-, cur, hc⟩ := HS.out.heap hg
      rcases HL.out.form with ⟨rfl, -⟩ | ⟨g', c', cur', rfl, -, e3, -⟩
      · cases e
      · have e : some g = some g' := e
        cases e
        have := hc.symm.trans e3; simp at this)
    have hES : Eff (· = X) w1 (w1.setCell ⟨X, 1, none⟩ (.slice va vm vc)) := by repeat first | exact Eff.refl _ _ | refine Eff.trans ?_ (Eff.setCell _ _ _ _)
    refine ⟨rfl, _, .slice va vm vc, ⟨?_, ?_, ?_⟩, (hE1.mono fun k _ hk => .inr (.inr hk)).trans (hES.mono fun k _ hk => .inl hk), .inl rfl, hob1⟩
    · rw [HR.out]; exact hX1.set 1 (.slice va vm vc)
    · rw [HR.out]; exact hS1.eff hES (fun g hg e => hXS.out (by rw [hg, show g = X from e]))
    · rw [HR.out]
      have e : (pe ++ [((off : Int), s.data.toList)]).map pendCells = pe.map pendCells ++ [[.int .i64 (off : Int), .string s]] := by simp [pendCells]
      show OwnR _ 0 _ 2 _ ((pe ++ [((off : Int), s.data.toList)]).map pendCells)
      rw [e]
      exact hown1.eff hES (fun g hg ex => hown1.neT hX1 (by decide) (by rw [hg, show g = X from ex]))
end Go.Proofs.Ytednelejpkchbaa
