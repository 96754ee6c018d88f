/- The walk of Write, within. Conditions: how the disk lies in memory; sizes. -/
import Derived.Test.YtednelejpkchbaaDkF
import Derived.Test.YtednelejpkchbaaRegM
namespace Go.Proofs.Ytednelejpkchbaa
open Go.RowKit

theorem OwnR.later {w w' : World} {B k : Nat} {e : TypeId} {v : Value} {L : List (List Value)} (h : OwnR w B e k v L) (hb : Below w.heap.size w w') : OwnR w' B e k v L :=
  h.eff (Eff.of_below hb (fun _ => False)) (fun _ _ h => h)
theorem DiskAt.later {w w' : World} {D U V : Nat} {pv : Value} {d : DiskD} (h : DiskAt w D U V pv d) (hb : Below w.heap.size w w') : DiskAt w' D U V pv d :=
  ⟨h.hD.later hb, h.hU.later hb, h.hV.later hb, h.hP.later hb, h.hUV⟩
theorem OwnR.ltO {w : World} {B k : Nat} {e : TypeId} {v : Value} {L : List (List Value)} (h : OwnR w B e k v L) {g : Nat} (hg : v.ownBlock = some g) : g < w.heap.size := by
  rcases h.form with ⟨rfl, -⟩ | ⟨g', c, cur, rfl, -, e3, -⟩
  · simp [Value.ownBlock] at hg
  · have : g' = g := Option.some.inj hg
    subst this; exact (Array.getElem?_eq_some_iff.1 e3).1
theorem usedD_dur (d : DiskD) : (usedD d).dur = d.dur := by unfold usedD; split <;> rfl
theorem usedD_vis (d : DiskD) : (usedD d).vis = d.vis := by unfold usedD; split <;> rfl
theorem usedD_pend (d : DiskD) : (usedD d).pend = d.pend := by unfold usedD; split <;> rfl
theorem OwnR.sl {w : World} {B k : Nat} {e : TypeId} {v : Value} {L : List (List Value)} (h : OwnR w B e k v L) : ∃ a m c, v = .slice a m c := by
  rcases h.form with ⟨rfl, -⟩ | ⟨g, c, cur, rfl, -⟩
  · exact ⟨_, _, _, rfl⟩
  · exact ⟨_, _, _, rfl⟩
theorem recOne (o : Int) (s : ByteArray) : ∀ u ∈ [Value.int .i64 o, .string s], u.oneCell' = true := by intro u hu; simp at hu; rcases hu with rfl | rfl <;> rfl
theorem step_app_write {W : World} {ops : Array Oper} {o : Oper} {T : Array Value} {D : List Deferred} {K : Act → World → Prop} {Q : Exit → Act → World → Prop} {E : Prop} (hgd : o.guard = none) (s x : Operand)
    (ho : o.op = .call { callee := .builtin .append, args := #[s, x], argTypes := #[63, 63] }) (v : Value) (L : List (List Value)) (hs : Act.eval ⟨T, D⟩ s = v) (hown : OwnR W 0 69 2 v L) (r : List Value) (hrk : r.length = 2)
    (h1 : ∀ u ∈ r, u.oneCell' = true) (nb : Nat) (hx : Act.eval ⟨T, D⟩ x = .slice (some ⟨nb, 0, none⟩) 1 1) (hnb : Blk W nb r 69) (hlen2 : L.length < 1000000)
    (h : ∀ v' w', OwnR w' 0 69 2 v' (L ++ [r]) → Eff (fun k => some k = v.ownBlock) W w' → (v'.ownBlock = v.ownBlock ∨ ∀ g, v'.ownBlock = some g → W.heap.size ≤ g) → K (Act.put ⟨T, D⟩ o.dst v') w') :
    if Region.wanted o (yielded ops T) = true then Oper.wp Try.prog o ⟨T, D⟩ W K Q else E := by
  have hw : Region.wanted o (yielded ops T) = true := by simp [Region.wanted, hgd]
  rw [if_pos hw]
  obtain ⟨i0, hi, hz0, hz1, hz2⟩ := info_parts infoWrite
  have hnews : ∀ j u, r[j]? = some u → W.cell? ((⟨nb, 0, none⟩ : Addr).add j) = some u := fun j u hj => by
    have := hnb.cell j hj
    cases j <;> simpa [Addr.add] using this
  obtain ⟨v', w', hrun, h2, h3, -, h5⟩ := run_append_own_at (P := Try.prog) W 0 63 o.type 69 i0 _ 2 24 Try.underlying63 hi hz0 hz1 hz2 rfl (by decide) v L.length L.flatten hown.1
    ⟨nb, 0, none⟩ 1 1 r (by rw [hrk]) hnews h1 (by unfold maxLen; omega) (by omega) (Nat.zero_le _)
  unfold Oper.wp execOp
  simp only [ho, resolve, invoke, builtin, Sem.run_bind, Sem.run_pure, Result.andThen_ok, List.map_toArray, List.map_cons, List.map_nil, hs, hx, hrun]
  refine h v' w' ⟨by simpa using h2, fun q hq => ?_⟩ ⟨h3.os, h3.tape, h3.output, h3.size, fun b hb hn => h3.block b hb hn⟩ (h5.imp id fun e g hg => by rw [e] at hg; cases hg; exact Nat.le_refl _)
  rcases List.mem_append.1 hq with h2 | h2
  · exact hown.2 q h2
  · simp at h2; rw [h2, hrk]
set_option maxRecDepth 20000 in
set_option maxHeartbeats 2000000 in
theorem write_in (D U V : Nat) (pv : Value) (d : DiskD) (off : Nat) (s : ByteArray) (w : World) (h : DiskAt w D U V pv d) (hoff : d.off = false) (hsz : d.dur.length ≤ 4194304) (hvl : d.vis.length = d.dur.length) (hl0 : 0 ≤ d.left) (hl1 : d.left ≤ 9223372036854775807)
    (hpl : d.pend.length < 1000000) (hin : off + s.size ≤ d.dur.length) :
    Calls Try.prog 21 #[.pointer (some ⟨D, 0, none⟩), .int .i64 off, .string s] w (DiskQ 0 (usedD ⟨d.off, d.left, d.dur, splice d.vis off s.data.toList, d.pend ++ [((off : Int), s.data.toList)]⟩) D U V pv w) := by
  obtain ⟨o, le, du, vi, pe⟩ := d
  obtain ⟨hD, hU, hV, hP, hUV⟩ := id h
  have c0 : w.cell? ⟨D, 0, none⟩ = some (.bool o) := hD.cell 0 rfl
  have c2 : w.cell? ⟨D, 2, none⟩ = some (.slice (some ⟨U, 0, none⟩) du.length du.length) := hD.cell 2 rfl
  obtain rfl : o = false := hoff
  have hsz' : du.length ≤ 4194304 := hsz
  have hvl' : vi.length = du.length := hvl
  have hin' : off + s.size ≤ du.length := hin
  have hpl' : pe.length < 1000000 := hpl
  have hl0' : 0 ≤ le := hl0
  have hl1' : le ≤ 9223372036854775807 := hl1
  have HIN : Hid (insideB du.length off s.size = true) := hide (by simp [insideB]; omega)
  have HI := hide (inside_any D w off s.size _ _ _ c2 hsz' ⟨by omega, by omega⟩)
  have hPL : (pe.map pendCells).length < 1000000 := by simpa using hpl'
  have HB := hide (And.intro hsz' (And.intro hvl' (And.intro hin' (And.intro hl0' hl1'))))
  have hvs : vi.length ≤ 4194304 := by omega
  have hos : off + s.size ≤ vi.length := by omega
  have hss : (s.size : Int) ≤ 9223372036854775807 := by omega
  have hofs : (off : Int) ≤ 9223372036854775807 := by omega
  have hown0 : ∀ g, pv.ownBlock = some g → g < w.heap.size := fun g hg => hP.ltO hg
  have HO := hide hown0
  have HUV := hide hUV
  clear hsz hvl hin hpl hl0 hl1 hsz' hvl' hin' hpl' hl0' hl1' hown0
  go_enter Try.func21, Try.ntmps21
  go_wp2_with (first | (go_at_call 28; refine (check_any D _ false c0).mono ?_; rintro e w' ⟨rfl, rfl⟩) | (go_at_call 29; refine HI.out.mono ?_; rintro e w' ⟨rfl, rfl⟩; rw [HIN.out]))
  generalize hW : World.alloc w _ = W0
  have hb : Below w.heap.size w W0 := by rw [← hW]; exact bal w _
  have bB : Blk W0 w.heap.size [.int .i64 off, .string s] 69 := by rw [← hW]; exact Blk.new w _ _
  have hA := h.later hb
  have k4 : W0.cell? ⟨D, 4, none⟩ = some pv := hA.hD.cell 4 rfl
  have b0 := bB.cell 0 rfl
  have b1 := bB.cell 1 rfl
  have hBS : ¬ (w.heap.size = D ∨ some w.heap.size = pv.ownBlock) := fun h => by
    rcases h with h | h
    · have := hD.lt; omega
    · have := HO.out _ h.symm; omega
  clear hW hD hU hV hP hUV c2 c0 k4 b0 b1
  refine wp_region_inv [some 23, some 24, some 25, some 26, some 27, some 28, some 29, some 30, some 31, some 32, none] (fun L vs W => match vs with | [x0, x1, x2, x3, x4, x5, x6, x7, x8, x9, x10] => (Eff (fun k => k = D ∨ some k = pv.ownBlock) W0 W ∧ (L 4 = false → Blk W D [.bool false, .int .i64 le, .slice (some ⟨U, 0, none⟩) du.length du.length, .slice (some ⟨V, 0, none⟩) vi.length vi.length, pv] 65) ∧ (L 10 = false → Blk W D [.bool false, .int .i64 le, .slice (some ⟨U, 0, none⟩) du.length du.length, .slice (some ⟨V, 0, none⟩) vi.length vi.length, pv] 65) ∧ (L 7 = false → OwnR W 0 69 2 pv (pe.map pendCells))) ∧ (L 0 = true → x0 = .pointer (some ⟨D, 0, none⟩)) ∧ (L 1 = true → x1 = .pointer (some ⟨D, 0, none⟩)) ∧ (L 2 = true → x2 = .pointer (some ⟨D, 0, none⟩)) ∧ (L 3 = true → x3 = .pointer (some ⟨D, 4, none⟩)) ∧ (L 4 = true → pv = x4) ∧ (L 5 = true → x5 = .agg #[.int .i64 off, .string s]) ∧ (L 6 = true → L 7 = false → ∃ b : Nat, x6 = .slice (some ⟨b, 0, none⟩) 1 1 ∧ Blk W b [.int .i64 off, .string s] 69) ∧ (L 7 = true → OwnR W 0 69 2 x7 (pe.map pendCells ++ [[.int .i64 off, .string s]]) ∧ (x7.ownBlock = pv.ownBlock ∨ ∀ g, x7.ownBlock = some g → W0.heap.size ≤ g)) ∧ (L 8 = true → x8 = .pointer (some ⟨D, 0, none⟩)) ∧ (L 9 = true → x9 = .pointer (some ⟨D, 4, none⟩)) ∧ (L 10 = true → L 7 = true ∧ Blk W D [.bool false, .int .i64 le, .slice (some ⟨U, 0, none⟩) du.length du.length, .slice (some ⟨V, 0, none⟩) vi.length vi.length, x7] 65) | _ => False) [_, _, _, _, _, _, _, _, _, _, undef] (by kernel_rfl) (by kernel_rfl) rfl (by simp only [puts, Act.put, List.setIfInBounds_toArray, List.set_cons_zero, List.set_cons_succ] <;> rfl) ?_ ?_ ?_
  · exact ⟨⟨Eff.drew _ _, fun _ => hA.hD.later (Below.refl _ _).drew, fun _ => hA.hD.later (Below.refl _ _).drew, fun _ => hA.hP.later (Below.refl _ _).drew⟩, (fun h => by cases h), (fun h => by cases h), (fun h => by cases h), (fun h => by cases h), (fun h => by cases h), (fun h => by cases h), (fun h => by cases h), (fun h => by cases h), (fun h => by cases h), (fun h => by cases h), (fun h => by cases h)⟩
  · refine ⟨?_, ?_, ?_, ?_, ?_, ?_, ?_, ?_, ?_, ?_, ?_, trivial⟩
    · intro L vs W hlen hL hD hI K hK
      obtain ⟨x0, x1, x2, x3, x4, x5, x6, x7, x8, x9, x10, rfl⟩ := len11 hlen
      have hG := hI.1
      replace hI := hI.2
      have f0 := hide hI.1
      replace hI := hI.2
      have f1 := hide hI.1
      replace hI := hI.2
      have f2 := hide hI.1
      replace hI := hI.2
      have f3 := hide hI.1
      replace hI := hI.2
      have f4 := hide hI.1
      replace hI := hI.2
      have f5 := hide hI.1
      replace hI := hI.2
      have f6 := hide hI.1
      replace hI := hI.2
      have f7 := hide hI.1
      replace hI := hI.2
      have f8 := hide hI.1
      replace hI := hI.2
      have f9 := hide hI.1
      replace hI := hI.2
      have f10 := hide hI
      clear hI
      have b0 := (bB.eff hG.1 hBS).cell 0 rfl
      have b1 := (bB.eff hG.1 hBS).cell 1 rfl
      try simp only [puts, Act.put, List.setIfInBounds_toArray, List.set_cons_zero, List.set_cons_succ]
      try go_simp
      exact hK.out _ _ _ (by simp only [puts, Act.put, List.setIfInBounds_toArray, List.set_cons_zero, List.set_cons_succ] <;> rfl) ⟨hG, (fun _ => rfl), (fun h => f1.out h), (fun h => f2.out h), (fun h => f3.out h), (fun h => f4.out h), (fun h => f5.out h), (fun h => f6.out h), (fun h => f7.out h), (fun h => f8.out h), (fun h => f9.out h), (fun h => f10.out h)⟩
    · intro L vs W hlen hL hD hI K hK
      obtain ⟨x0, x1, x2, x3, x4, x5, x6, x7, x8, x9, x10, rfl⟩ := len11 hlen
      have hG := hI.1
      replace hI := hI.2
      have f0 := hide hI.1
      replace hI := hI.2
      have f1 := hide hI.1
      replace hI := hI.2
      have f2 := hide hI.1
      replace hI := hI.2
      have f3 := hide hI.1
      replace hI := hI.2
      have f4 := hide hI.1
      replace hI := hI.2
      have f5 := hide hI.1
      replace hI := hI.2
      have f6 := hide hI.1
      replace hI := hI.2
      have f7 := hide hI.1
      replace hI := hI.2
      have f8 := hide hI.1
      replace hI := hI.2
      have f9 := hide hI.1
      replace hI := hI.2
      have f10 := hide hI
      clear hI
      have b0 := (bB.eff hG.1 hBS).cell 0 rfl
      have b1 := (bB.eff hG.1 hBS).cell 1 rfl
      try simp only [puts, Act.put, List.setIfInBounds_toArray, List.set_cons_zero, List.set_cons_succ]
      try go_simp
      exact hK.out _ _ _ (by simp only [puts, Act.put, List.setIfInBounds_toArray, List.set_cons_zero, List.set_cons_succ] <;> rfl) ⟨hG, (fun h => f0.out h), (fun _ => rfl), (fun h => f2.out h), (fun h => f3.out h), (fun h => f4.out h), (fun h => f5.out h), (fun h => f6.out h), (fun h => f7.out h), (fun h => f8.out h), (fun h => f9.out h), (fun h => f10.out h)⟩
    · intro L vs W hlen hL hD hI K hK
      obtain ⟨x0, x1, x2, x3, x4, x5, x6, x7, x8, x9, x10, rfl⟩ := len11 hlen
      have hG := hI.1
      replace hI := hI.2
      have f0 := hide hI.1
      replace hI := hI.2
      have f1 := hide hI.1
      replace hI := hI.2
      have f2 := hide hI.1
      replace hI := hI.2
      have f3 := hide hI.1
      replace hI := hI.2
      have f4 := hide hI.1
      replace hI := hI.2
      have f5 := hide hI.1
      replace hI := hI.2
      have f6 := hide hI.1
      replace hI := hI.2
      have f7 := hide hI.1
      replace hI := hI.2
      have f8 := hide hI.1
      replace hI := hI.2
      have f9 := hide hI.1
      replace hI := hI.2
      have f10 := hide hI
      clear hI
      have b0 := (bB.eff hG.1 hBS).cell 0 rfl
      have b1 := (bB.eff hG.1 hBS).cell 1 rfl
      obtain rfl := f1.out (hD.on 1 (by kernel_rfl))
      try simp only [puts, Act.put, List.setIfInBounds_toArray, List.set_cons_zero, List.set_cons_succ]
      try go_simp
      exact hK.out _ _ _ (by simp only [puts, Act.put, List.setIfInBounds_toArray, List.set_cons_zero, List.set_cons_succ] <;> rfl) ⟨hG, (fun h => f0.out h), (fun h => f1.out h), (fun _ => rfl), (fun h => f3.out h), (fun h => f4.out h), (fun h => f5.out h), (fun h => f6.out h), (fun h => f7.out h), (fun h => f8.out h), (fun h => f9.out h), (fun h => f10.out h)⟩
    · intro L vs W hlen hL hD hI K hK
      obtain ⟨x0, x1, x2, x3, x4, x5, x6, x7, x8, x9, x10, rfl⟩ := len11 hlen
      have hG := hI.1
      replace hI := hI.2
      have f0 := hide hI.1
      replace hI := hI.2
      have f1 := hide hI.1
      replace hI := hI.2
      have f2 := hide hI.1
      replace hI := hI.2
      have f3 := hide hI.1
      replace hI := hI.2
      have f4 := hide hI.1
      replace hI := hI.2
      have f5 := hide hI.1
      replace hI := hI.2
      have f6 := hide hI.1
      replace hI := hI.2
      have f7 := hide hI.1
      replace hI := hI.2
      have f8 := hide hI.1
      replace hI := hI.2
      have f9 := hide hI.1
      replace hI := hI.2
      have f10 := hide hI
      clear hI
      have b0 := (bB.eff hG.1 hBS).cell 0 rfl
      have b1 := (bB.eff hG.1 hBS).cell 1 rfl
      obtain rfl := f2.out (hD.on 2 (by kernel_rfl))
      try simp only [puts, Act.put, List.setIfInBounds_toArray, List.set_cons_zero, List.set_cons_succ]
      try go_simp
      exact hK.out _ _ _ (by simp only [puts, Act.put, List.setIfInBounds_toArray, List.set_cons_zero, List.set_cons_succ] <;> rfl) ⟨hG, (fun h => f0.out h), (fun h => f1.out h), (fun h => f2.out h), (fun _ => rfl), (fun h => f4.out h), (fun h => f5.out h), (fun h => f6.out h), (fun h => f7.out h), (fun h => f8.out h), (fun h => f9.out h), (fun h => f10.out h)⟩
    · intro L vs W hlen hL hD hI K hK
      obtain ⟨x0, x1, x2, x3, x4, x5, x6, x7, x8, x9, x10, rfl⟩ := len11 hlen
      have hG := hI.1
      replace hI := hI.2
      have f0 := hide hI.1
      replace hI := hI.2
      have f1 := hide hI.1
      replace hI := hI.2
      have f2 := hide hI.1
      replace hI := hI.2
      have f3 := hide hI.1
      replace hI := hI.2
      have f4 := hide hI.1
      replace hI := hI.2
      have f5 := hide hI.1
      replace hI := hI.2
      have f6 := hide hI.1
      replace hI := hI.2
      have f7 := hide hI.1
      replace hI := hI.2
      have f8 := hide hI.1
      replace hI := hI.2
      have f9 := hide hI.1
      replace hI := hI.2
      have f10 := hide hI
      clear hI
      have b0 := (bB.eff hG.1 hBS).cell 0 rfl
      have b1 := (bB.eff hG.1 hBS).cell 1 rfl
      obtain rfl := f3.out (hD.on 3 (by kernel_rfl))
      try simp only [puts, Act.put, List.setIfInBounds_toArray, List.set_cons_zero, List.set_cons_succ]
      have k4 := (hG.2.1 hL).cell 4 rfl
      go_simp
      have hb := Below.refl W.heap.size W
      exact hK.out _ _ _ (by simp only [puts, Act.put, List.setIfInBounds_toArray, List.set_cons_zero, List.set_cons_succ] <;> rfl) ⟨⟨hG.1, fun h => absurd h (by simp), hG.2.2⟩, (fun h => f0.out h), (fun h => f1.out h), (fun h => f2.out h), (fun h => f3.out h), (fun _ => rfl), (fun h => f5.out h), (fun h => (fun h => fun h7 => let ⟨b, e, h1⟩ := h h7; ⟨b, e, h1.later hb⟩) (f6.out h)), (fun h => (fun h => ⟨h.1.later hb, h.2⟩) (f7.out h)), (fun h => f8.out h), (fun h => f9.out h), (fun h => (fun h => ⟨h.1, h.2.later hb⟩) (f10.out h))⟩
    · intro L vs W hlen hL hD hI K hK
      obtain ⟨x0, x1, x2, x3, x4, x5, x6, x7, x8, x9, x10, rfl⟩ := len11 hlen
      have hG := hI.1
      replace hI := hI.2
      have f0 := hide hI.1
      replace hI := hI.2
      have f1 := hide hI.1
      replace hI := hI.2
      have f2 := hide hI.1
      replace hI := hI.2
      have f3 := hide hI.1
      replace hI := hI.2
      have f4 := hide hI.1
      replace hI := hI.2
      have f5 := hide hI.1
      replace hI := hI.2
      have f6 := hide hI.1
      replace hI := hI.2
      have f7 := hide hI.1
      replace hI := hI.2
      have f8 := hide hI.1
      replace hI := hI.2
      have f9 := hide hI.1
      replace hI := hI.2
      have f10 := hide hI
      clear hI
      have b0 := (bB.eff hG.1 hBS).cell 0 rfl
      have b1 := (bB.eff hG.1 hBS).cell 1 rfl
      try simp only [puts, Act.put, List.setIfInBounds_toArray, List.set_cons_zero, List.set_cons_succ]
      try go_simp
      exact hK.out _ _ _ (by simp only [puts, Act.put, List.setIfInBounds_toArray, List.set_cons_zero, List.set_cons_succ] <;> rfl) ⟨hG, (fun h => f0.out h), (fun h => f1.out h), (fun h => f2.out h), (fun h => f3.out h), (fun h => f4.out h), (fun _ => rfl), (fun h => f6.out h), (fun h => f7.out h), (fun h => f8.out h), (fun h => f9.out h), (fun h => f10.out h)⟩
    · intro L vs W hlen hL hD hI K hK
      obtain ⟨x0, x1, x2, x3, x4, x5, x6, x7, x8, x9, x10, rfl⟩ := len11 hlen
      have hG := hI.1
      replace hI := hI.2
      have f0 := hide hI.1
      replace hI := hI.2
      have f1 := hide hI.1
      replace hI := hI.2
      have f2 := hide hI.1
      replace hI := hI.2
      have f3 := hide hI.1
      replace hI := hI.2
      have f4 := hide hI.1
      replace hI := hI.2
      have f5 := hide hI.1
      replace hI := hI.2
      have f6 := hide hI.1
      replace hI := hI.2
      have f7 := hide hI.1
      replace hI := hI.2
      have f8 := hide hI.1
      replace hI := hI.2
      have f9 := hide hI.1
      replace hI := hI.2
      have f10 := hide hI
      clear hI
      have b0 := (bB.eff hG.1 hBS).cell 0 rfl
      have b1 := (bB.eff hG.1 hBS).cell 1 rfl
      obtain rfl := f5.out (hD.on 5 (by kernel_rfl))
      try simp only [puts, Act.put, List.setIfInBounds_toArray, List.set_cons_zero, List.set_cons_succ]
      try go_simp
      generalize hW' : World.alloc W _ = W'
      have hb : Below W.heap.size W W' := by rw [← hW']; exact bal W _
      exact hK.out _ _ _ (by simp only [puts, Act.put, List.setIfInBounds_toArray, List.set_cons_zero, List.set_cons_succ] <;> rfl) ⟨⟨hG.1.trans (Eff.of_below hb _), fun h => (hG.2.1 h).later hb, fun h => (hG.2.2.1 h).later hb, fun h => (hG.2.2.2 h).later hb⟩, (fun h => f0.out h), (fun h => f1.out h), (fun h => f2.out h), (fun h => f3.out h), (fun h => f4.out h), (fun h => f5.out h), (fun _ => fun _ => ⟨W.heap.size, rfl, by rw [← hW']; exact Blk.new W _ _⟩), (fun h => (fun h => ⟨h.1.later hb, h.2⟩) (f7.out h)), (fun h => f8.out h), (fun h => f9.out h), (fun h => (fun h => ⟨h.1, h.2.later hb⟩) (f10.out h))⟩
    · intro L vs W hlen hL hD hI K hK
      obtain ⟨x0, x1, x2, x3, x4, x5, x6, x7, x8, x9, x10, rfl⟩ := len11 hlen
      have hG := hI.1
      replace hI := hI.2
      have f0 := hide hI.1
      replace hI := hI.2
      have f1 := hide hI.1
      replace hI := hI.2
      have f2 := hide hI.1
      replace hI := hI.2
      have f3 := hide hI.1
      replace hI := hI.2
      have f4 := hide hI.1
      replace hI := hI.2
      have f5 := hide hI.1
      replace hI := hI.2
      have f6 := hide hI.1
      replace hI := hI.2
      have f7 := hide hI.1
      replace hI := hI.2
      have f8 := hide hI.1
      replace hI := hI.2
      have f9 := hide hI.1
      replace hI := hI.2
      have f10 := hide hI
      clear hI
      have b0 := (bB.eff hG.1 hBS).cell 0 rfl
      have b1 := (bB.eff hG.1 hBS).cell 1 rfl
      have g4 := f4.out (hD.on 4 (by kernel_rfl))
      have g6 := f6.out (hD.on 6 (by kernel_rfl))
      try simp only [puts, Act.put, List.setIfInBounds_toArray, List.set_cons_zero, List.set_cons_succ]
      obtain rfl := g4
      obtain ⟨b, rfl, hBb⟩ := g6 hL
      have hPW := hG.2.2.2 hL
      refine step_app_write rfl _ _ rfl pv _ rfl hPW [.int .i64 off, .string s] rfl (recOne off s) _ rfl hBb hPL ?_
      intro v' W' hO hE hob
      have hDD : ∀ {vs}, Blk W D vs 65 → Blk W' D vs 65 := fun k => k.eff hE (fun e => hPW.neT k (by decide) e.symm)
      exact hK.out _ _ _ (by simp only [puts, Act.put, List.setIfInBounds_toArray, List.set_cons_zero, List.set_cons_succ] <;> rfl) ⟨⟨hG.1.trans (hE.mono fun k _ h => Or.inr h), fun h => hDD (hG.2.1 h), fun h => hDD (hG.2.2.1 h), fun h => absurd h (by simp)⟩, (fun h => f0.out h), (fun h => f1.out h), (fun h => f2.out h), (fun h => f3.out h), (fun h => f4.out h), (fun h => f5.out h), (fun h => (fun _ h => absurd h (by simp)) (f6.out h)), (fun _ => ⟨hO, hob.imp id fun k g hg => Nat.le_trans hG.1.size (k g hg)⟩), (fun h => f8.out h), (fun h => f9.out h), (fun h => (fun h => absurd (h.1.symm.trans hL) (by decide)) (f10.out h))⟩
    · intro L vs W hlen hL hD hI K hK
      obtain ⟨x0, x1, x2, x3, x4, x5, x6, x7, x8, x9, x10, rfl⟩ := len11 hlen
      have hG := hI.1
      replace hI := hI.2
      have f0 := hide hI.1
      replace hI := hI.2
      have f1 := hide hI.1
      replace hI := hI.2
      have f2 := hide hI.1
      replace hI := hI.2
      have f3 := hide hI.1
      replace hI := hI.2
      have f4 := hide hI.1
      replace hI := hI.2
      have f5 := hide hI.1
      replace hI := hI.2
      have f6 := hide hI.1
      replace hI := hI.2
      have f7 := hide hI.1
      replace hI := hI.2
      have f8 := hide hI.1
      replace hI := hI.2
      have f9 := hide hI.1
      replace hI := hI.2
      have f10 := hide hI
      clear hI
      have b0 := (bB.eff hG.1 hBS).cell 0 rfl
      have b1 := (bB.eff hG.1 hBS).cell 1 rfl
      obtain rfl := f0.out (hD.on 0 (by kernel_rfl))
      try simp only [puts, Act.put, List.setIfInBounds_toArray, List.set_cons_zero, List.set_cons_succ]
      try go_simp
      exact hK.out _ _ _ (by simp only [puts, Act.put, List.setIfInBounds_toArray, List.set_cons_zero, List.set_cons_succ] <;> rfl) ⟨hG, (fun h => f0.out h), (fun h => f1.out h), (fun h => f2.out h), (fun h => f3.out h), (fun h => f4.out h), (fun h => f5.out h), (fun h => f6.out h), (fun h => f7.out h), (fun _ => rfl), (fun h => f9.out h), (fun h => f10.out h)⟩
    · intro L vs W hlen hL hD hI K hK
      obtain ⟨x0, x1, x2, x3, x4, x5, x6, x7, x8, x9, x10, rfl⟩ := len11 hlen
      have hG := hI.1
      replace hI := hI.2
      have f0 := hide hI.1
      replace hI := hI.2
      have f1 := hide hI.1
      replace hI := hI.2
      have f2 := hide hI.1
      replace hI := hI.2
      have f3 := hide hI.1
      replace hI := hI.2
      have f4 := hide hI.1
      replace hI := hI.2
      have f5 := hide hI.1
      replace hI := hI.2
      have f6 := hide hI.1
      replace hI := hI.2
      have f7 := hide hI.1
      replace hI := hI.2
      have f8 := hide hI.1
      replace hI := hI.2
      have f9 := hide hI.1
      replace hI := hI.2
      have f10 := hide hI
      clear hI
      have b0 := (bB.eff hG.1 hBS).cell 0 rfl
      have b1 := (bB.eff hG.1 hBS).cell 1 rfl
      obtain rfl := f8.out (hD.on 8 (by kernel_rfl))
      try simp only [puts, Act.put, List.setIfInBounds_toArray, List.set_cons_zero, List.set_cons_succ]
      try go_simp
      exact hK.out _ _ _ (by simp only [puts, Act.put, List.setIfInBounds_toArray, List.set_cons_zero, List.set_cons_succ] <;> rfl) ⟨hG, (fun h => f0.out h), (fun h => f1.out h), (fun h => f2.out h), (fun h => f3.out h), (fun h => f4.out h), (fun h => f5.out h), (fun h => f6.out h), (fun h => f7.out h), (fun h => f8.out h), (fun _ => rfl), (fun h => f10.out h)⟩
    · intro L vs W hlen hL hD hI K hK
      obtain ⟨x0, x1, x2, x3, x4, x5, x6, x7, x8, x9, x10, rfl⟩ := len11 hlen
      have hG := hI.1
      replace hI := hI.2
      have f0 := hide hI.1
      replace hI := hI.2
      have f1 := hide hI.1
      replace hI := hI.2
      have f2 := hide hI.1
      replace hI := hI.2
      have f3 := hide hI.1
      replace hI := hI.2
      have f4 := hide hI.1
      replace hI := hI.2
      have f5 := hide hI.1
      replace hI := hI.2
      have f6 := hide hI.1
      replace hI := hI.2
      have f7 := hide hI.1
      replace hI := hI.2
      have f8 := hide hI.1
      replace hI := hI.2
      have f9 := hide hI.1
      replace hI := hI.2
      have f10 := hide hI
      clear hI
      have b0 := (bB.eff hG.1 hBS).cell 0 rfl
      have b1 := (bB.eff hG.1 hBS).cell 1 rfl
      have g7 := f7.out (hD.on 7 (by kernel_rfl))
      obtain rfl := f9.out (hD.on 9 (by kernel_rfl))
      try simp only [puts, Act.put, List.setIfInBounds_toArray, List.set_cons_zero, List.set_cons_succ]
      obtain ⟨qa, qm, qc, rfl⟩ := g7.1.sl
      have hDW := hG.2.2.1 hL
      have k4 := hDW.cell 4 rfl
      have fz := hDW.frozen 4
      go_simp
      have hE := Eff.setCell W D 4 (.slice qa qm qc)
      exact hK.out _ undef _ (by simp only [puts, Act.put, List.setIfInBounds_toArray, List.set_cons_zero, List.set_cons_succ] <;> rfl) ⟨⟨hG.1.trans (hE.mono fun k _ h => Or.inl h), fun h => absurd (h.symm.trans (hD.on 4 (by kernel_rfl))) (by decide), fun h => absurd h (by simp), fun h => absurd (h.symm.trans (hD.on 7 (by kernel_rfl))) (by decide)⟩, (fun h => f0.out h), (fun h => f1.out h), (fun h => f2.out h), (fun h => f3.out h), (fun h => f4.out h), (fun h => f5.out h), (fun h => (fun _ h => absurd (h.symm.trans (hD.on 7 (by kernel_rfl))) (by decide)) (f6.out h)), (fun h => (fun h => ⟨h.1.eff hE (fun g hg e => h.1.neT hDW (by decide) (by rw [hg, show g = D from e])), h.2⟩) (f7.out h)), (fun h => f8.out h), (fun h => f9.out h), (fun _ => ⟨hD.on 7 (by kernel_rfl), hDW.set 4 _⟩)⟩
  intro L vs W hlen hall hI
  obtain ⟨x0, x1, x2, x3, x4, x5, x6, x7, x8, x9, x10, rfl⟩ := len11 hlen
  have hG := hI.1
  replace hI := hI.2
  have f0 := hide hI.1
  replace hI := hI.2
  have f1 := hide hI.1
  replace hI := hI.2
  have f2 := hide hI.1
  replace hI := hI.2
  have f3 := hide hI.1
  replace hI := hI.2
  have f4 := hide hI.1
  replace hI := hI.2
  have f5 := hide hI.1
  replace hI := hI.2
  have f6 := hide hI.1
  replace hI := hI.2
  have f7 := hide hI.1
  replace hI := hI.2
  have f8 := hide hI.1
  replace hI := hI.2
  have f9 := hide hI.1
  replace hI := hI.2
  have f10 := hide hI
  clear hI
  obtain rfl := f0.out (hall 0 (by decide))
  obtain rfl := f1.out (hall 1 (by decide))
  obtain rfl := f2.out (hall 2 (by decide))
  obtain rfl := f3.out (hall 3 (by decide))
  have g4 := f4.out (hall 4 (by decide))
  obtain rfl := f5.out (hall 5 (by decide))
  have g6 := f6.out (hall 6 (by decide))
  have g7 := f7.out (hall 7 (by decide))
  obtain rfl := f8.out (hall 8 (by decide))
  obtain rfl := f9.out (hall 9 (by decide))
  have g10 := f10.out (hall 10 (by decide))
  have hal := hide hall
  clear hall f0 f1 f2 f3 f4 f5 f6 f7 f8 f9 f10
  try simp only [puts, Act.put, List.setIfInBounds_toArray, List.set_cons_zero, List.set_cons_succ]
  obtain rfl := g4
  obtain ⟨W2, rfl⟩ : ∃ W', W' = W := ⟨_, rfl⟩
  have hE2 := hG.1
  obtain ⟨hO2, hob2⟩ := g7
  have hD2 := g10.2
  have hV2 := hA.hV.eff hE2 (fun h => h.elim (hA.hV.neT hA.hD (by decide)) (fun h => hA.hP.neT hA.hV (by decide) h.symm))
  have hU2 := hA.hU.eff hE2 (fun h => h.elim (hA.hU.neT hA.hD (by decide)) (fun h => hA.hP.neT hA.hU (by decide) h.symm))
  have bB2 := bB.eff hE2 hBS
  clear g6 g10 hG hal bB
  have b0 := bB2.cell 0 rfl
  have b1 := bB2.cell 1 rfl
  have d3 := hD2.cell 3 rfl
  go_wp2_with fail
  go_still_tail 5, (by kernel_rfl)
  change wpList _ _ _ _ _ W2.drew
  obtain ⟨W3, hW3⟩ : ∃ W3, W2.drew = W3 := ⟨_, rfl⟩
  rw [hW3]
  have hb3 : Below W2.heap.size W2 W3 := by rw [← hW3]; exact (Below.refl _ _).drew
  clear hW3
  go_wp2_with fail
  have hV3 := hV2.later hb3
  have H0 := HB.out
  refine (onto_any V off s vi W3 hV3 hos hvs).mono ?_
  rintro e W4 ⟨rfl, hV4, hE4⟩
  have hD3 := hD2.later hb3
  have hDV := hD3.neT hV3 (by decide)
  have hD4 := hD3.eff hE4 hDV
  have hU4 := (hU2.later hb3).eff hE4 (show U ≠ V from HUV.out)
  have hO3 := hO2.later hb3
  have hO4 := hO3.eff hE4 (fun g hg e => hO3.neT hV3 (by decide) (by rw [hg, show g = V from e]))
  have hvl2 : (splice vi off s.data.toList).length = vi.length := length_splice _ _ _ (by simpa using hos)
  have hD4' : Blk W4 D (diskCells ⟨false, le, du, splice vi off s.data.toList, pe ++ [((off : Int), s.data.toList)]⟩ U V x7) 65 := by
    have e : diskCells ⟨false, le, du, splice vi off s.data.toList, pe ++ [((off : Int), s.data.toList)]⟩ U V x7 = [.bool false, .int .i64 le, .slice (some ⟨U, 0, none⟩) du.length du.length, .slice (some ⟨V, 0, none⟩) vi.length vi.length, x7] := by simp only [diskCells, hvl2]
    rw [e]; exact hD4
  have HVL := hide hvl2
  clear hvl2 b0 b1 d3
  go_wp2_with fail
  refine (used_any D U V x7 ⟨false, le, du, splice vi off s.data.toList, pe ++ [((off : Int), s.data.toList)]⟩ W4 hD4' H0.2.2.2.1 H0.2.2.2.2).mono ?_
  rintro e W5 ⟨rfl, hD5, hE5⟩
  have hV5 := hV4.eff hE5 (fun e => hDV e.symm)
  have hU5 := hU4.eff hE5 (hU4.neT hD4 (by decide))
  have hO5 := hO4.eff hE5 (fun g hg e => hO4.neT hD4 (by decide) (by rw [hg, show g = D from e]))
  go_wp2_with fail
  go_ret
  refine ⟨rfl, x7, ⟨hD5, ?_, ?_, ?_, HUV.out⟩, ?_, ?_⟩
  · rw [usedD_dur]; exact hU5
  · rw [usedD_vis]; exact hV5
  · rw [usedD_pend, List.map_append]
    show OwnR W5 0 69 2 x7 (pe.map pendCells ++ [[.int .i64 off, .string ⟨s.data.toList.toArray⟩]])
    rw [show (⟨s.data.toList.toArray⟩ : ByteArray) = s by cases s; simp]; exact hO5
  · exact ((((Eff.of_below hb _).trans (hE2.mono fun k _ h => h.elim Or.inl (fun h => Or.inr (Or.inr (Or.inr h))))).trans (Eff.of_below hb3 _)).trans (hE4.mono fun k _ h => Or.inr (Or.inr (Or.inl h)))).trans (hE5.mono fun k _ h => Or.inl h)
  · exact hob2.imp id fun k g hg => Nat.le_trans hb.size (k g hg)
end Go.Proofs.Ytednelejpkchbaa
