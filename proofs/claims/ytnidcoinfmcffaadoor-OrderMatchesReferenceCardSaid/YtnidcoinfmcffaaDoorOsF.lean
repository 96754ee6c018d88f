/- Walks of line, Line and IsLine (chapter 15). Conditions: how the order lies in memory. -/
import Derived.Test.YtnidcoinfmcffaaDoorOsE
namespace Go.Proofs.YtnidcoinfmcffaaDoor
open Go.RowKit
theorem own_later {w w' : World} {B : Nat} {v : Value} {l : List Int} (h : OwnI w B v l) (hb : Below w.heap.size w w') : OwnI w' B v l := OwnI.eff (S := fun _ => False) h (Eff.of_below hb _) (fun _ _ h => h)
theorem own_weak {w : World} {B B' : Nat} {v : Value} {l : List Int} (h : OwnI w B v l) (hB : B' ≤ B) : OwnI w B' v l := by
 obtain ⟨h1, h2⟩ := h
 refine ⟨h1, h2.imp id ?_⟩
 rintro ⟨g, cap, cur, e1, e2, e3⟩
 exact ⟨g, cap, cur, e1, Nat.le_trans hB e2, e3⟩
/-- an append of one integer, in a region that draws its order -/
theorem step_intY {W : World} {ops : Array Oper} {o : Oper} {T : Array Value} {D : List Deferred} {K : Act → World → Prop} {Q : Exit → Act → World → Prop} {E : Prop} (hgd : o.guard = none) (s x : Operand)
  (ho : o.op = .call { callee := .builtin .append, args := #[s, x], argTypes := #[26, 26] }) (B : Nat) (v : Value) (l : List Int) (hs : Act.eval ⟨T, D⟩ s = v) (hown : OwnI W B v l)
  (nb : Nat) (y : Int) (hx : Act.eval ⟨T, D⟩ x = .slice (some ⟨nb, 0, none⟩) 1 1) (hr : Blk W nb [.int .i64 y] 3)
  (hlen2 : l.length + 1 < 1000000) (hB : B ≤ W.heap.size)
  (h : ∀ g c w', OwnI w' B (.slice (some ⟨g, 0, none⟩) (l.length + 1) c) (l ++ [y]) → EffE B 3 W w' → K (Act.put ⟨T, D⟩ o.dst (.slice (some ⟨g, 0, none⟩) (l.length + 1) c)) w') :
  if Region.wanted o (yielded ops T) = true then Oper.wp Tryd.prog o ⟨T, D⟩ W K Q else E := by
 have hO0 : OwnR W B 3 1 v (l.map fun i => [Value.int .i64 i]) := ⟨by
  have e : (l.map fun i => [Value.int .i64 i]).flatten = l.map (Value.int .i64) := by
   clear h hr hlen2 hown; induction l with
   | nil => rfl
   | cons a t ih => rw [List.map_cons, List.flatten_cons, ih]; rfl
  rw [e, List.length_map]; exact hown, fun r hr => by obtain ⟨i, -, rfl⟩ := List.mem_map.1 hr; rfl⟩
 refine step_one infoInt rfl (by decide) Tryd.underlying26 hgd s x ho B v (l.map fun i => [Value.int .i64 i]) hs hO0 nb [.int .i64 y] hx hr rfl (fun u hu => by rw [List.mem_singleton.1 hu]; rfl) (by rw [List.length_map]; omega) (by rw [List.length_map]; omega) hB fun g c w' hO hE => ?_
 rw [List.length_map] at hO ⊢
 refine h g c w' ?_ hE
 have h1 := hO.1
 have e : ((l.map fun i => [Value.int .i64 i]) ++ [[Value.int .i64 y]]).flatten = (l ++ [y]).map (Value.int .i64) := by
  clear h hr hlen2 hown hO hO0 h1; induction l with
  | nil => rfl
  | cons a t ih => rw [List.map_cons, List.cons_append, List.flatten_cons, ih]; rfl
 rw [e] at h1
 have e2 : ((l.map fun i => [Value.int .i64 i]) ++ [[Value.int .i64 y]]).length = (l ++ [y]).length := by simp
 rw [e2] at h1
 exact h1
theorem bit_test0 {S k : Nat} (hS : S < 256) : (bits BinOp.and IntKind.i64 ((S : Int) / 2 ^ k) 1 == 0) = !S.testBit k := by
 have e : (S : Int) / 2 ^ k = ((S / 2 ^ k : Nat) : Int) := by simp
 have hle : S / 2 ^ k ≤ S := Nat.div_le_self _ _
 rw [e, show (1 : Int) = ((1 : Nat) : Int) from rfl, band_nat (by omega) (by decide), Nat.and_one_is_mod, Nat.testBit_eq_decide_div_mod_eq]
 have h2 : S / 2 ^ k % 2 < 2 := Nat.mod_lt _ (by decide)
 generalize S / 2 ^ k % 2 = q at *
 show decide ((q : Int) = 0) = !decide (q = 1)
 rw [← decide_not, decide_eq_decide]; omega
theorem less_zero {T S : Nat} (hT : T < 256) : (bits BinOp.andNot IntKind.i64 (T : Int) (S : Int) == 0) = decide (lessO T S = 0) := by
 rw [bless_nat (by omega)]
 show decide ((lessO T S : Int) = 0) = _
 rw [decide_eq_decide]; omega
def lenV : Value → Nat
 | .slice _ n _ => n
 | _ => 0
theorem free_bits {n : Nat} {R : RelO} (hd : ∀ a b, R a b = true → a < n ∧ b < n) (hn : n ≤ 8) (l : List Nat) {x : Nat} (hx : x < 8) : freeO n R l x = ((!(bitsO fun a => l.contains a).testBit x) && decide (lessO (bitsO fun a => R a x) (bitsO fun a => l.contains a) = 0)) := by
 unfold freeO
 rw [bits_test, decide_eq_true hx, Bool.true_and, less_bits]
 congr 1
 apply Bool.eq_iff_iff.2
 rw [List.all_eq_true, decide_eq_true_eq]
 constructor
 ·intro h
  refine Nat.eq_of_testBit_eq fun i => ?_
  rw [bits_test, Nat.zero_testBit]
  cases e : R i x with
  | false => simp
  | true =>
   have := h i (List.mem_range.2 (hd _ _ e).1)
   rw [e] at this
   simp at this
   simp [this]
 ·intro h a ha
  have h1 : (bitsO fun a => R a x && !l.contains a).testBit a = false := by rw [h, Nat.zero_testBit]
  rw [bits_test] at h1
  have ha8 : a < 8 := by have := List.mem_range.1 ha; omega
  rw [decide_eq_true ha8, Bool.true_and] at h1
  cases e : R a x with
  | false => rfl
  | true => rw [e] at h1; simpa using h1
/-- an own line, as the call returns it -/
def OwnIQ (l : List Int) (w : World) (e : Ending) (w' : World) : Prop := ∃ v, e = .returned v ∧ OwnI w' w.heap.size v l ∧ Below w.heap.size w w'
theorem find_of {p : Nat → Bool} {n x : Nat} (hx : x < n) (h1 : ∀ y, y < x → p y = false) (h2 : p x = true) : (List.range n).find? p = some x := by
 rw [List.find?_range_eq_some]
 exact ⟨h2, List.mem_range.2 hx, fun j hj => by rw [h1 j hj]; rfl⟩
set_option maxRecDepth 100000 in
set_option maxHeartbeats 2000000 in
theorem linel_any (n : Nat) (R : RelO) (w : World) (hn : n ≤ 8) (hR : PoO n R) : Calls Tryd.prog 57 #[.int .i64 n, tabV R] w (OwnIQ (natsO (lineO n R)) w) := by
 have HST := hide (fun k hk => lineK_start hR k hk)
 have HFR := hide (fun (l : List Nat) (h : StartO n R l) (hl : l.length < n) => h.free hR hl)
 have HFB := hide (fun (l : List Nat) x (hx : x < 8) => free_bits (n := n) (R := R) (fun a b h => hR.dom a b h) hn l hx)
 have HLN : Hid (lineK n R n = lineO n R) := hide rfl
 have HL0 : Hid (lineK n R 0 = []) := hide rfl
 have HLS : Hid (∀ k x, (List.range n).find? (freeO n R (lineK n R k)) = some x → lineK n R (k + 1) = lineK n R k ++ [x]) := hide (fun k x h => by
  show lineK n R k ++ _ = _
  rw [h]; rfl)
 generalize lineO n R = LO at *
 generalize lineK n R = LK at *
 clear hR
 go_enter Tryd.func57, Tryd.ntmps57
 go_wp2_with fail
 generalize hX1 : World.alloc w _ = X1
 have zX1 : X1.heap.size = w.heap.size + 1 := by rw [← hX1]; simp
 have bX1 : Below w.heap.size w X1 := by rw [← hX1]; exact bal w _
 have bT : Blk X1 (w.heap.size) (tabC R) 65 := by rw [← hX1]; exact Blk.newA w _ (by first | rfl | simp)
 have Xb := bX1
 have Xz := zX1
 clear hX1 zX1 bX1
 have hwX : w.heap.size ≤ X1.heap.size := by omega
 have HBT := hide bT
 have HXB := hide Xb
 clear Xz
 go_wp2_with fail
 go_loopw [5, 6] (fun ov sv wr => ∃ k : Nat, k ≤ n ∧ OwnI wr X1.heap.size ov (natsO (LK k)) ∧ sv = .int .i64 ((bitsO (fun a => (LK k).contains a) : Nat) : Int) ∧ EffE X1.heap.size 3 X1 wr) (fun ov _ _ => n - lenV ov)
 case atStart => exact ⟨0, by omega, by rw [HL0.out]; exact OwnI.nil _ _, by rw [HL0.out]; rfl, EffE.of_below (Below.refl _ _)⟩
 case round =>
  obtain ⟨k, hk, hown, rfl, hE⟩ := hrel
  obtain ⟨hst, hlk⟩ := HST.out k hk
  obtain ⟨oa, oc, rfl⟩ := hown.form
  have hll : (natsO (LK k)).length = k := by unfold natsO; rw [List.length_map, hlk]
  by_cases hlt : k < n
  ·have hltI : (k : Int) < n := by omega
   have HK := hide hlt
   rw [hll] at hown ⊢
   obtain ⟨S, hS⟩ : ∃ S : Nat, bitsO (fun a => (LK k).contains a) = S := ⟨_, rfl⟩
   have hS8 : S < 256 := by rw [← hS]; exact bits_lt _
   rw [hS]
   have HS := hide hS
   have HFK := hide (HFR.out (LK k) hst (by rw [hlk]; exact hlt))
   have HFX := hide (fun x hx => HFB.out (LK k) x hx)
   have HLX := hide (fun x h => HLS.out k x h)
   have HLL := hide hll
   have HOW := hide hown
   have HEE := hide hE
   have bT := hE.blk HBT.out (by decide)
   have hsz := hE.size
   clear hst hlk hown hE hS hll
   go_wp2_with fail
   go_loopw [5, 6, 13] (fun ov sv i wz => ∃ x : Nat, x ≤ n ∧ i = .int .i64 x ∧ ov = .slice oa k oc ∧ sv = .int .i64 (S : Int) ∧ Hid (∀ y, y < x → freeO n R (LK k) y = false) ∧ wz = wr) (fun _ _ i _ => n - (intOf i).toNat)
   case atStart => exact ⟨0, by omega, rfl, rfl, rfl, hide (fun y h => by omega), rfl⟩
   case round =>
    obtain ⟨x, hx, rfl, rfl, rfl, HFY, rfl⟩ := hrel
    by_cases hlx : x < n
    ·have hlxI : (x : Int) < n := by omega
     have HX := hide hlx
     have hx8 : x < 8 := by omega
     have hx8I : (x : Int) < 8 := by omega
     have t0 := bT.cell x (tabC_get _ x hx8)
     obtain ⟨T, hT⟩ : ∃ T : Nat, bitsO (fun a => R a x) = T := ⟨_, rfl⟩
     have hT8 : T < 256 := by rw [← hT]; exact bits_lt _
     rw [show setI R x = (T : Int) by show ((bitsO _ : Nat) : Int) = _; rw [hT]] at t0
     have hfx := HFX.out x hx8
     rw [hT, HS.out] at hfx
     have hb1 := bit_test0 (k := x) hS8
     have hb2 := less_zero (T := T) (S := S) hT8
     have HNO : Hid (freeO n R (LK k) x = false → ∀ y, y < x + 1 → freeO n R (LK k) y = false) := hide (fun h y hy => by
      rcases Nat.lt_or_ge y x with h1 | h1
      ·exact HFY.out y h1
      ·obtain rfl : y = x := by omega
       exact h)
     cases h1 : S.testBit x
     ·rw [h1] at hb1 hfx
      by_cases h2 : lessO T S = 0
      ·rw [decide_eq_true h2] at hb2 hfx
       have HL1 := hide (HLX.out x (find_of hlx HFY.out (by rw [hfx]; rfl)))
       have hor := or_pow8 hS8 hx8
       have HB1 := hide (show bitsO (fun a => (LK k ++ [x]).contains a) = S ||| 2 ^ x by
        rw [← HS.out, bits_one _ hx8]
        refine bits_congr fun a _ => ?_
        rw [List.contains_eq_mem, List.contains_eq_mem, ← Bool.decide_or, decide_eq_decide]
        simp)
       have HOS := hide hsz
       clear h1 h2 hfx hT HNO hsz
       go_wp2_with fail
       clear t0 bT
       refine wp_region_inv [some 29, some 30, some 31, some 32, some 33, some 34, some 35, some 36, some 5, some 6] (fun L vs W => match vs with | [x0, x1, x2, x3, x4, x5, x6, x7, x8, x9] => ((L 3 = false → Below wr.heap.size wr W) ∧ EffE X1.heap.size 3 wr W ∧ (L 8 = false → x8 = .slice oa k oc) ∧ (L 9 = false → x9 = .int .i64 (S : Int))) ∧ (L 0 = true → x0 = .slice oa k oc) ∧ (L 1 = true → x1 = .int .i64 x) ∧ (L 2 = true → L 3 = false → ∃ b0 : Nat, x2 = .slice (some ⟨b0, 0, none⟩) 1 1 ∧ Blk W b0 [.int .i64 x] 3) ∧ (L 3 = true → L 0 = true ∧ ∃ va vc, x3 = .slice va (k + 1) vc ∧ OwnI W X1.heap.size (.slice va (k + 1) vc) (natsO (LK k) ++ [(x : Int)])) ∧ (L 4 = true → x4 = .int .i64 (S : Int)) ∧ (L 5 = true → x5 = .int .i64 x) ∧ (L 6 = true → x6 = .int .i64 (IntKind.i64.wrap (2 ^ x))) ∧ (L 7 = true → L 4 = true ∧ x7 = .int .i64 ((S ||| 2 ^ x : Nat) : Int)) ∧ (L 8 = true → (L 0 = true ∧ L 3 = true) ∧ ∃ va vc, x8 = .slice va (k + 1) vc ∧ OwnI W X1.heap.size (.slice va (k + 1) vc) (natsO (LK k) ++ [(x : Int)])) ∧ (L 9 = true → L 4 = true ∧ x9 = .int .i64 ((S ||| 2 ^ x : Nat) : Int)) | _ => False) [_, _, _, _, _, _, _, _, _, _] (by kernel_rfl) (by kernel_rfl) rfl (by simp only [puts, Act.put, List.setIfInBounds_toArray, List.set_cons_zero, List.set_cons_succ] <;> rfl) ?_ ?_ ?_
       ·exact ⟨⟨fun _ => (Below.refl _ _).drew, EffE.of_below (Below.refl _ _).drew, fun _ => rfl, fun _ => rfl⟩, (fun h => by cases h), (fun h => by cases h), (fun h => by cases h), (fun h => by cases h), (fun h => by cases h), (fun h => by cases h), (fun h => by cases h), (fun h => by cases h), (fun h => by cases h), (fun h => by cases h)⟩
       ·refine ⟨?_, ?_, ?_, ?_, ?_, ?_, ?_, ?_, ?_, ?_, trivial⟩
        ·intro L vs W hlen hL hD hI K hK
         obtain ⟨x0, x1, x2, x3, x4, x5, x6, x7, x8, x9, rfl⟩ := len10 hlen
         have hG := hI.1
         replace hI := hI.2
         have f0 := hide hI.1
         replace hI := hI.2
         have f1 := hide hI.1
         replace hI := hI.2
         have f2 := hide hI.1
         replace hI := hI.2
         have f3 := hide hI.1
         replace hI := hI.2
         have f4 := hide hI.1
         replace hI := hI.2
         have f5 := hide hI.1
         replace hI := hI.2
         have f6 := hide hI.1
         replace hI := hI.2
         have f7 := hide hI.1
         replace hI := hI.2
         have f8 := hide hI.1
         replace hI := hI.2
         have f9 := hide hI
         clear hI
         try simp only [puts, Act.put, List.setIfInBounds_toArray, List.set_cons_zero, List.set_cons_succ]
         have h8 : L 8 = false := Bool.eq_false_iff.2 (fun h => absurd ((f8.out h).1.1.symm.trans hL) (by decide))
         obtain rfl := hG.2.2.1 h8
         go_simp
         exact hK.out _ _ _ (by simp only [puts, Act.put, List.setIfInBounds_toArray, List.set_cons_zero, List.set_cons_succ] <;> rfl) ⟨hG, (fun _ => rfl), (fun h => f1.out h), (fun h => f2.out h), (fun h => (fun h => ⟨rfl, h.2⟩) (f3.out h)), (fun h => f4.out h), (fun h => f5.out h), (fun h => f6.out h), (fun h => f7.out h), (fun h => (fun h => absurd (h.1.1.symm.trans hL) (by decide)) (f8.out h)), (fun h => f9.out h)⟩
        ·intro L vs W hlen hL hD hI K hK
         obtain ⟨x0, x1, x2, x3, x4, x5, x6, x7, x8, x9, rfl⟩ := len10 hlen
         have hG := hI.1
         replace hI := hI.2
         have f0 := hide hI.1
         replace hI := hI.2
         have f1 := hide hI.1
         replace hI := hI.2
         have f2 := hide hI.1
         replace hI := hI.2
         have f3 := hide hI.1
         replace hI := hI.2
         have f4 := hide hI.1
         replace hI := hI.2
         have f5 := hide hI.1
         replace hI := hI.2
         have f6 := hide hI.1
         replace hI := hI.2
         have f7 := hide hI.1
         replace hI := hI.2
         have f8 := hide hI.1
         replace hI := hI.2
         have f9 := hide hI
         clear hI
         try simp only [puts, Act.put, List.setIfInBounds_toArray, List.set_cons_zero, List.set_cons_succ]
         try go_simp
         exact hK.out _ _ _ (by simp only [puts, Act.put, List.setIfInBounds_toArray, List.set_cons_zero, List.set_cons_succ] <;> rfl) ⟨hG, (fun h => f0.out h), (fun _ => rfl), (fun h => f2.out h), (fun h => f3.out h), (fun h => f4.out h), (fun h => f5.out h), (fun h => f6.out h), (fun h => f7.out h), (fun h => f8.out h), (fun h => f9.out h)⟩
        ·intro L vs W hlen hL hD hI K hK
         obtain ⟨x0, x1, x2, x3, x4, x5, x6, x7, x8, x9, rfl⟩ := len10 hlen
         have hG := hI.1
         replace hI := hI.2
         have f0 := hide hI.1
         replace hI := hI.2
         have f1 := hide hI.1
         replace hI := hI.2
         have f2 := hide hI.1
         replace hI := hI.2
         have f3 := hide hI.1
         replace hI := hI.2
         have f4 := hide hI.1
         replace hI := hI.2
         have f5 := hide hI.1
         replace hI := hI.2
         have f6 := hide hI.1
         replace hI := hI.2
         have f7 := hide hI.1
         replace hI := hI.2
         have f8 := hide hI.1
         replace hI := hI.2
         have f9 := hide hI
         clear hI
         obtain rfl := f1.out (hD.on 1 (by kernel_rfl))
         try simp only [puts, Act.put, List.setIfInBounds_toArray, List.set_cons_zero, List.set_cons_succ]
         try go_simp
         generalize hW' : World.alloc W _ = W'
         have hb : Below W.heap.size W W' := by rw [← hW']; exact bal W _
         exact hK.out _ _ _ (by simp only [puts, Act.put, List.setIfInBounds_toArray, List.set_cons_zero, List.set_cons_succ] <;> rfl) ⟨⟨fun h => below2 (hG.1 h) hb, hG.2.1.trans (EffE.of_below hb), hG.2.2⟩, (fun h => f0.out h), (fun h => f1.out h), (fun _ => fun _ => ⟨W.heap.size, rfl, by rw [← hW']; exact Blk.newA W _ rfl⟩), (fun h => (fun h => ⟨h.1, let ⟨va, vc, a, b⟩ := h.2; ⟨va, vc, a, own_later b hb⟩⟩) (f3.out h)), (fun h => f4.out h), (fun h => f5.out h), (fun h => f6.out h), (fun h => f7.out h), (fun h => (fun h => ⟨h.1, let ⟨va, vc, a, b⟩ := h.2; ⟨va, vc, a, own_later b hb⟩⟩) (f8.out h)), (fun h => f9.out h)⟩
        ·intro L vs W hlen hL hD hI K hK
         obtain ⟨x0, x1, x2, x3, x4, x5, x6, x7, x8, x9, rfl⟩ := len10 hlen
         have hG := hI.1
         replace hI := hI.2
         have f0 := hide hI.1
         replace hI := hI.2
         have f1 := hide hI.1
         replace hI := hI.2
         have f2 := hide hI.1
         replace hI := hI.2
         have f3 := hide hI.1
         replace hI := hI.2
         have f4 := hide hI.1
         replace hI := hI.2
         have f5 := hide hI.1
         replace hI := hI.2
         have f6 := hide hI.1
         replace hI := hI.2
         have f7 := hide hI.1
         replace hI := hI.2
         have f8 := hide hI.1
         replace hI := hI.2
         have f9 := hide hI
         clear hI
         obtain rfl := f0.out (hD.on 0 (by kernel_rfl))
         have g2 := f2.out (hD.on 2 (by kernel_rfl))
         try simp only [puts, Act.put, List.setIfInBounds_toArray, List.set_cons_zero, List.set_cons_succ]
         obtain ⟨b0, rfl, hB0⟩ := g2 hL
         have hWb := hG.1 hL
         refine step_intY rfl _ _ rfl X1.heap.size _ (natsO (LK k)) rfl (own_later HOW.out hWb) b0 (x : Int) rfl hB0 (by rw [HLL.out]; omega) (Nat.le_trans HOS.out hWb.size) ?_
         rw [HLL.out]
         intro g1 c1 W' hO' hE'
         have hb : True := trivial
         exact hK.out _ _ _ (by simp only [puts, Act.put, List.setIfInBounds_toArray, List.set_cons_zero, List.set_cons_succ] <;> rfl) ⟨⟨(fun h => by cases h), hG.2.1.trans hE', hG.2.2⟩, (fun h => f0.out h), (fun h => f1.out h), (fun h => (fun _ h8 => absurd h8 (by simp)) (f2.out h)), (fun _ => ⟨hD.on 0 (by kernel_rfl), _, _, rfl, hO'⟩), (fun h => f4.out h), (fun h => f5.out h), (fun h => f6.out h), (fun h => f7.out h), (fun h => (fun h => absurd (h.1.2.symm.trans hL) (by decide)) (f8.out h)), (fun h => f9.out h)⟩
        ·intro L vs W hlen hL hD hI K hK
         obtain ⟨x0, x1, x2, x3, x4, x5, x6, x7, x8, x9, rfl⟩ := len10 hlen
         have hG := hI.1
         replace hI := hI.2
         have f0 := hide hI.1
         replace hI := hI.2
         have f1 := hide hI.1
         replace hI := hI.2
         have f2 := hide hI.1
         replace hI := hI.2
         have f3 := hide hI.1
         replace hI := hI.2
         have f4 := hide hI.1
         replace hI := hI.2
         have f5 := hide hI.1
         replace hI := hI.2
         have f6 := hide hI.1
         replace hI := hI.2
         have f7 := hide hI.1
         replace hI := hI.2
         have f8 := hide hI.1
         replace hI := hI.2
         have f9 := hide hI
         clear hI
         try simp only [puts, Act.put, List.setIfInBounds_toArray, List.set_cons_zero, List.set_cons_succ]
         have h9 : L 9 = false := Bool.eq_false_iff.2 (fun h => absurd ((f9.out h).1.symm.trans hL) (by decide))
         obtain rfl := hG.2.2.2 h9
         go_simp
         exact hK.out _ _ _ (by simp only [puts, Act.put, List.setIfInBounds_toArray, List.set_cons_zero, List.set_cons_succ] <;> rfl) ⟨hG, (fun h => f0.out h), (fun h => f1.out h), (fun h => f2.out h), (fun h => f3.out h), (fun _ => rfl), (fun h => f5.out h), (fun h => f6.out h), (fun h => (fun h => ⟨rfl, h.2⟩) (f7.out h)), (fun h => f8.out h), (fun h => (fun h => absurd (h.1.symm.trans hL) (by decide)) (f9.out h))⟩
        ·intro L vs W hlen hL hD hI K hK
         obtain ⟨x0, x1, x2, x3, x4, x5, x6, x7, x8, x9, rfl⟩ := len10 hlen
         have hG := hI.1
         replace hI := hI.2
         have f0 := hide hI.1
         replace hI := hI.2
         have f1 := hide hI.1
         replace hI := hI.2
         have f2 := hide hI.1
         replace hI := hI.2
         have f3 := hide hI.1
         replace hI := hI.2
         have f4 := hide hI.1
         replace hI := hI.2
         have f5 := hide hI.1
         replace hI := hI.2
         have f6 := hide hI.1
         replace hI := hI.2
         have f7 := hide hI.1
         replace hI := hI.2
         have f8 := hide hI.1
         replace hI := hI.2
         have f9 := hide hI
         clear hI
         try simp only [puts, Act.put, List.setIfInBounds_toArray, List.set_cons_zero, List.set_cons_succ]
         try go_simp
         exact hK.out _ _ _ (by simp only [puts, Act.put, List.setIfInBounds_toArray, List.set_cons_zero, List.set_cons_succ] <;> rfl) ⟨hG, (fun h => f0.out h), (fun h => f1.out h), (fun h => f2.out h), (fun h => f3.out h), (fun h => f4.out h), (fun _ => rfl), (fun h => f6.out h), (fun h => f7.out h), (fun h => f8.out h), (fun h => f9.out h)⟩
        ·intro L vs W hlen hL hD hI K hK
         obtain ⟨x0, x1, x2, x3, x4, x5, x6, x7, x8, x9, rfl⟩ := len10 hlen
         have hG := hI.1
         replace hI := hI.2
         have f0 := hide hI.1
         replace hI := hI.2
         have f1 := hide hI.1
         replace hI := hI.2
         have f2 := hide hI.1
         replace hI := hI.2
         have f3 := hide hI.1
         replace hI := hI.2
         have f4 := hide hI.1
         replace hI := hI.2
         have f5 := hide hI.1
         replace hI := hI.2
         have f6 := hide hI.1
         replace hI := hI.2
         have f7 := hide hI.1
         replace hI := hI.2
         have f8 := hide hI.1
         replace hI := hI.2
         have f9 := hide hI
         clear hI
         obtain rfl := f5.out (hD.on 5 (by kernel_rfl))
         try simp only [puts, Act.put, List.setIfInBounds_toArray, List.set_cons_zero, List.set_cons_succ]
         try go_simp
         exact hK.out _ _ _ (by simp only [puts, Act.put, List.setIfInBounds_toArray, List.set_cons_zero, List.set_cons_succ] <;> rfl) ⟨hG, (fun h => f0.out h), (fun h => f1.out h), (fun h => f2.out h), (fun h => f3.out h), (fun h => f4.out h), (fun h => f5.out h), (fun _ => rfl), (fun h => f7.out h), (fun h => f8.out h), (fun h => f9.out h)⟩
        ·intro L vs W hlen hL hD hI K hK
         obtain ⟨x0, x1, x2, x3, x4, x5, x6, x7, x8, x9, rfl⟩ := len10 hlen
         have hG := hI.1
         replace hI := hI.2
         have f0 := hide hI.1
         replace hI := hI.2
         have f1 := hide hI.1
         replace hI := hI.2
         have f2 := hide hI.1
         replace hI := hI.2
         have f3 := hide hI.1
         replace hI := hI.2
         have f4 := hide hI.1
         replace hI := hI.2
         have f5 := hide hI.1
         replace hI := hI.2
         have f6 := hide hI.1
         replace hI := hI.2
         have f7 := hide hI.1
         replace hI := hI.2
         have f8 := hide hI.1
         replace hI := hI.2
         have f9 := hide hI
         clear hI
         obtain rfl := f4.out (hD.on 4 (by kernel_rfl))
         obtain rfl := f6.out (hD.on 6 (by kernel_rfl))
         try simp only [puts, Act.put, List.setIfInBounds_toArray, List.set_cons_zero, List.set_cons_succ]
         try go_simp
         exact hK.out _ _ _ (by simp only [puts, Act.put, List.setIfInBounds_toArray, List.set_cons_zero, List.set_cons_succ] <;> rfl) ⟨hG, (fun h => f0.out h), (fun h => f1.out h), (fun h => f2.out h), (fun h => f3.out h), (fun h => f4.out h), (fun h => f5.out h), (fun h => f6.out h), (fun _ => ⟨hD.on 4 (by kernel_rfl), rfl⟩), (fun h => f8.out h), (fun h => f9.out h)⟩
        ·intro L vs W hlen hL hD hI K hK
         obtain ⟨x0, x1, x2, x3, x4, x5, x6, x7, x8, x9, rfl⟩ := len10 hlen
         have hG := hI.1
         replace hI := hI.2
         have f0 := hide hI.1
         replace hI := hI.2
         have f1 := hide hI.1
         replace hI := hI.2
         have f2 := hide hI.1
         replace hI := hI.2
         have f3 := hide hI.1
         replace hI := hI.2
         have f4 := hide hI.1
         replace hI := hI.2
         have f5 := hide hI.1
         replace hI := hI.2
         have f6 := hide hI.1
         replace hI := hI.2
         have f7 := hide hI.1
         replace hI := hI.2
         have f8 := hide hI.1
         replace hI := hI.2
         have f9 := hide hI
         clear hI
         have g3 := f3.out (hD.on 3 (by kernel_rfl))
         try simp only [puts, Act.put, List.setIfInBounds_toArray, List.set_cons_zero, List.set_cons_succ]
         obtain ⟨h0, va, vc, rfl, hO8⟩ := g3
         go_simp
         have hb := Below.refl W.heap.size W
         exact hK.out _ _ _ (by simp only [puts, Act.put, List.setIfInBounds_toArray, List.set_cons_zero, List.set_cons_succ] <;> rfl) ⟨⟨hG.1, hG.2.1, (fun h => by cases h), hG.2.2.2⟩, (fun h => f0.out h), (fun h => f1.out h), (fun h => (fun h => fun h3 => let ⟨b0, a, b⟩ := h h3; ⟨b0, a, b.later hb⟩) (f2.out h)), (fun h => (fun h => ⟨h.1, let ⟨va, vc, a, b⟩ := h.2; ⟨va, vc, a, own_later b hb⟩⟩) (f3.out h)), (fun h => f4.out h), (fun h => f5.out h), (fun h => f6.out h), (fun h => f7.out h), (fun _ => ⟨⟨h0, hD.on 3 (by kernel_rfl)⟩, _, _, rfl, hO8⟩), (fun h => f9.out h)⟩
        ·intro L vs W hlen hL hD hI K hK
         obtain ⟨x0, x1, x2, x3, x4, x5, x6, x7, x8, x9, rfl⟩ := len10 hlen
         have hG := hI.1
         replace hI := hI.2
         have f0 := hide hI.1
         replace hI := hI.2
         have f1 := hide hI.1
         replace hI := hI.2
         have f2 := hide hI.1
         replace hI := hI.2
         have f3 := hide hI.1
         replace hI := hI.2
         have f4 := hide hI.1
         replace hI := hI.2
         have f5 := hide hI.1
         replace hI := hI.2
         have f6 := hide hI.1
         replace hI := hI.2
         have f7 := hide hI.1
         replace hI := hI.2
         have f8 := hide hI.1
         replace hI := hI.2
         have f9 := hide hI
         clear hI
         have g7 := f7.out (hD.on 7 (by kernel_rfl))
         try simp only [puts, Act.put, List.setIfInBounds_toArray, List.set_cons_zero, List.set_cons_succ]
         obtain rfl := g7.2
         go_simp
         have hb := Below.refl W.heap.size W
         exact hK.out _ _ _ (by simp only [puts, Act.put, List.setIfInBounds_toArray, List.set_cons_zero, List.set_cons_succ] <;> rfl) ⟨⟨hG.1, hG.2.1, hG.2.2.1, (fun h => by cases h)⟩, (fun h => f0.out h), (fun h => f1.out h), (fun h => (fun h => fun h3 => let ⟨b0, a, b⟩ := h h3; ⟨b0, a, b.later hb⟩) (f2.out h)), (fun h => (fun h => ⟨h.1, let ⟨va, vc, a, b⟩ := h.2; ⟨va, vc, a, own_later b hb⟩⟩) (f3.out h)), (fun h => f4.out h), (fun h => f5.out h), (fun h => f6.out h), (fun h => f7.out h), (fun h => (fun h => ⟨h.1, let ⟨va, vc, a, b⟩ := h.2; ⟨va, vc, a, own_later b hb⟩⟩) (f8.out h)), (fun _ => ⟨g7.1, rfl⟩)⟩
       intro L vs W hlen hall hI
       obtain ⟨x0, x1, x2, x3, x4, x5, x6, x7, x8, x9, rfl⟩ := len10 hlen
       have hG := hI.1
       replace hI := hI.2
       have f0 := hide hI.1
       replace hI := hI.2
       have f1 := hide hI.1
       replace hI := hI.2
       have f2 := hide hI.1
       replace hI := hI.2
       have f3 := hide hI.1
       replace hI := hI.2
       have f4 := hide hI.1
       replace hI := hI.2
       have f5 := hide hI.1
       replace hI := hI.2
       have f6 := hide hI.1
       replace hI := hI.2
       have f7 := hide hI.1
       replace hI := hI.2
       have f8 := hide hI.1
       replace hI := hI.2
       have f9 := hide hI
       clear hI
       obtain rfl := f0.out (hall 0 (by decide))
       obtain rfl := f1.out (hall 1 (by decide))
       have g2 := f2.out (hall 2 (by decide))
       have g3 := f3.out (hall 3 (by decide))
       obtain rfl := f4.out (hall 4 (by decide))
       obtain rfl := f5.out (hall 5 (by decide))
       obtain rfl := f6.out (hall 6 (by decide))
       have g7 := f7.out (hall 7 (by decide))
       have g8 := f8.out (hall 8 (by decide))
       have g9 := f9.out (hall 9 (by decide))
       have hal := hide hall
       clear hall f0 f1 f2 f3 f4 f5 f6 f7 f8 f9
       try simp only [puts, Act.put, List.setIfInBounds_toArray, List.set_cons_zero, List.set_cons_succ]
       obtain ⟨-, va, vc, rfl, hO⟩ := g8
       obtain rfl := g9.2
       have HOF := hide hO
       have HEF := hide (HEE.out.trans hG.2.1)
       clear hO hG g2 g3 g7 g9 hal
       have HOF' : Hid (OwnI W X1.heap.size (.slice va (k + 1) vc) (natsO (LK (k + 1)))) := hide (by
        rw [HL1.out]
        have e : natsO (LK k ++ [x]) = natsO (LK k) ++ [(x : Int)] := by simp [natsO]
        rw [e]; exact HOF.out)
       go_wp2_with fail
       go_roundw
       case rel => exact ⟨k + 1, by have := HK.out; omega, HOF'.out, by rw [HL1.out, HB1.out], HEF.out⟩
       case measure => have := HK.out; simp [lenV]; omega
      ·rw [decide_eq_false h2] at hb2 hfx
       have HNX := hide (HNO.out (by rw [hfx]; rfl))
       clear h1 h2 hfx hT HNO
       go_wp2_with fail
       go_roundw
       case rel => exact ⟨x + 1, by have := HX.out; omega, by go_num, rfl, rfl, HNX, by first | trivial | rfl⟩
       case measure => have := HX.out; simp [intOf]; omega
     ·rw [h1] at hb1 hfx
      have HNX := hide (HNO.out (by rw [hfx]; rfl))
      clear h1 hfx hT HNO hb2
      go_wp2_with fail
      go_roundw
      case rel => exact ⟨x + 1, by have := HX.out; omega, by go_num, rfl, rfl, HNX, by first | trivial | rfl⟩
      case measure => have := HX.out; simp [intOf]; omega
    ·obtain rfl : x = n := by omega
     obtain ⟨y, hy1, hy2⟩ := HFK.out
     rw [HFY.out y hy1] at hy2; cases hy2
  ·obtain rfl : k = n := by omega
   rw [hll] at hown ⊢
   rw [HLN.out] at hown
   have HOF := hide (own_weak hown hwX)
   have HW := hide (HXB.out.trans (hE.below (Nat.le_refl _) |>.mono hwX))
   clear hown hE hst hlk hll
   go_wp2_with fail
   go_ret
   exact ⟨_, rfl, HOF.out, HW.out⟩
/-- a line as a function returns it, without an error -/
def IntsEQ (l : List Int) (w : World) (e : Ending) (w' : World) : Prop := ∃ v, e = .returned (.tuple #[v, .int .i64 0]) ∧ IntsIn (frm w.heap.size w') v l ∧ Below w.heap.size w w'
theorem line_no (o : OrderD) (pv : Value) (w : World) (hp : PairsIn w.cell? pv o.pairs) (hv : validO o = false) : Calls Tryd.prog 19 #[orderV o.n pv] w (Ret (.tuple #[.slice none 0 0, .int .i64 150]) w) := by
 obtain ⟨on, ps⟩ := o
 obtain ⟨pa, pm, rfl, -, -, -⟩ := id hp
 have HR := hide (fun W (hb : Below w.heap.size w W) => by
  have h := read_any ⟨on, ps⟩ (.slice pa ps.length pm) W (RecIn.below hb hp)
  rw [hv] at h
  exact h)
 generalize readO ⟨on, ps⟩ = R at *
 clear hp hv
 go_enter Tryd.func19, Tryd.ntmps19
 go_wp2_with fail
 generalize hX1 : World.alloc w _ = X1
 have zX1 : X1.heap.size = w.heap.size + 1 := by rw [← hX1]; simp
 have bX1 : Below w.heap.size w X1 := by rw [← hX1]; exact bal w _
 have bO : Blk X1 (w.heap.size) [.int .i64 on, .slice pa ps.length pm] 25 := by rw [← hX1]; exact Blk.newA w _ (by first | rfl | simp)
 have Xb := bX1
 have Xz := zX1
 clear hX1 zX1 bX1
 have c0 := bO.cell 0 rfl
 have c1 := bO.cell 1 rfl
 refine (HR.out _ Xb).mono ?_
 rintro e w1 ⟨rfl, hb⟩
 have hw := below2 Xb hb
 clear c0 c1 bO hb Xb Xz
 go_wp2_with fail
 go_ret2
 exact ⟨rfl, below2 hw (bal _ _)⟩
set_option maxRecDepth 100000 in
theorem line_yes (n : Nat) (ps : List (Int × Int)) (pv : Value) (w : World) (hp : PairsIn w.cell? pv ps) (hv : validO ⟨n, ps⟩ = true) : Calls Tryd.prog 19 #[orderV n pv] w (IntsEQ (natsO (lineO n (beforeO ⟨n, ps⟩))) w) := by
 obtain ⟨pa, pm, rfl, -, -, -⟩ := id hp
 have hn8 : n ≤ 8 := by
  have hf : formedO ⟨(n : Int), ps⟩ = true := by unfold validO at hv; rw [Bool.and_eq_true] at hv; exact hv.1
  have := (formed_n hf).1.2
  simp only at this
  omega
 have HPO := hide (show PoO n (beforeO ⟨(n : Int), ps⟩) from before_po hv)
 have HR := hide (fun W (hb : Below w.heap.size w W) => by
  have h := read_any ⟨(n : Int), ps⟩ (.slice pa ps.length pm) W (RecIn.below hb hp)
  rw [hv, show readO ⟨(n : Int), ps⟩ = beforeO ⟨(n : Int), ps⟩ by
   have hf : formedO ⟨(n : Int), ps⟩ = true := by unfold validO at hv; rw [Bool.and_eq_true] at hv; exact hv.1
   unfold readO; rw [if_pos hf]] at h
  exact h)
 generalize beforeO ⟨(n : Int), ps⟩ = R at *
 clear hp hv
 have HLI := hide (fun W => linel_any n R W hn8 HPO.out)
 go_enter Tryd.func19, Tryd.ntmps19
 go_wp2_with fail
 generalize hX1 : World.alloc w _ = X1
 have zX1 : X1.heap.size = w.heap.size + 1 := by rw [← hX1]; simp
 have bX1 : Below w.heap.size w X1 := by rw [← hX1]; exact bal w _
 have bO : Blk X1 (w.heap.size) [.int .i64 n, .slice pa ps.length pm] 25 := by rw [← hX1]; exact Blk.newA w _ (by first | rfl | simp)
 have Xb := bX1
 have Xz := zX1
 clear hX1 zX1 bX1
 have c0 := bO.cell 0 rfl
 have c1 := bO.cell 1 rfl
 refine (HR.out _ Xb).mono ?_
 rintro e w1 ⟨rfl, hb⟩
 have hw := below2 Xb hb
 replace bO := bO.later hb
 clear c0 c1 hb Xb Xz
 go_upto_region 2 with (fail)
 generalize hY1 : World.alloc w1 _ = Y1
 have zY1 : Y1.heap.size = w1.heap.size + 1 := by rw [← hY1]; simp
 have bY1 : Below w1.heap.size w1 Y1 := by rw [← hY1]; exact bal w1 _
 have bT : Blk Y1 (w1.heap.size) (tabC R) 65 := by rw [← hY1]; exact Blk.newA w1 _ (by first | rfl | simp)
 have Yb := bY1
 have Yz := zY1
 clear hY1 zY1 bY1
 have o0 := (bO.later Yb).cell 0 rfl
 have hw2 := below2 hw Yb
 have t0 := bT.cell 0 rfl
 have t1 := bT.cell 1 rfl
 have t2 := bT.cell 2 rfl
 have t3 := bT.cell 3 rfl
 have t4 := bT.cell 4 rfl
 have t5 := bT.cell 5 rfl
 have t6 := bT.cell 6 rfl
 have t7 := bT.cell 7 rfl
 clear Yb Yz hw
 go_wp2_with fail
 refine (HLI.out _).mono ?_
 rintro e w2 ⟨v, rfl, hO, hb⟩
 have HW3 := hide (below2 hw2 hb)
 have HP := hide ((hO.intsF (Nat.le_refl _)).keeps (keeps_frm_le _ hw2.size))
 clear t0 t1 t2 t3 t4 t5 t6 t7 o0 bT hO hb
 generalize natsO (lineO n R) = LO at *
 obtain ⟨qa, qc, rfl, -⟩ := id HP.out
 go_wp2_with fail
 go_ret2
 exact ⟨_, rfl, HP.out, HW3.out⟩
end Go.Proofs.YtnidcoinfmcffaaDoor
