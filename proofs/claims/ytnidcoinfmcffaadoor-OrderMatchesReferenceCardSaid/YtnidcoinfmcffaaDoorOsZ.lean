/- The walk of the closure of Cycle (chapter 15). Conditions: how the order lies in memory. -/
import Derived.Test.YtnidcoinfmcffaaDoorOsY
import Derived.Test.YtnidcoinfmcffaaDoorOsX
namespace Go.Proofs.YtnidcoinfmcffaaDoor
open Go.RowKit
attribute [local go_sem] Oper.semAt_some
theorem index_int (l : List Int) (n : Int) (v : Value) (w : World) (hv : IntsIn w.cell? v l) :
  Calls Tryd.prog 84 #[v, .int .i64 n] w (fun e w' => e = .returned (.int .i64 (idxF (fun y => decide (n = y)) l)) ∧ w' = w) := by
 obtain ⟨a, c, rfl, hlc, hcm, hc⟩ := hv
 have hlI : (l.length : Int) ≤ 9223372036854775807 := by omega
 have HC := hide hc
 clear hc
 go_enter Tryd.func84, Tryd.ntmps84
 go_wp2
 go_loopw [8] (fun i wr => ∃ (k : Nat), k ≤ l.length ∧ i = .int .i64 k ∧ Hid ((l.take k).any (fun y => decide (n = y)) = false) ∧ wr = w) (fun i _ => l.length - (intOf i).toNat)
 case atStart => exact ⟨0, by omega, rfl, rfl, rfl⟩
 case round =>
  obtain ⟨k, hk, rfl, HA, hwr⟩ := hrel
  obtain rfl := hwr.symm
  by_cases hlt : k < l.length
  ·have HK1 := hide hlt
   obtain ⟨b, o, rfl, hck⟩ := HC.out k hlt
   have HT := hide (any_take_succ (d := 0) (p := fun y => decide (n = y)) hlt HA.out)
   have HN := hide (idxF_found (d := 0) (fun y => decide (n = y)) l k hlt HA.out)
   generalize l.getD k 0 = x at hck HT HN
   by_cases e : n = x
   ·have e' : (n == x) = true := by simp [e]
    have HN' := hide (HN.out (decide_eq_true e))
    clear e HT HN
    go_wp2_with fail
    go_ret
    exact ⟨ret_int HN'.out.symm, rfl⟩
   ·have e' : (n == x) = false := by simp [e]
    have HT' := hide (HT.out (decide_eq_false e))
    clear e HT HN
    go_wp2_with fail
    go_roundw
    case rel => exact ⟨k + 1, by have := HK1.out; omega, by go_num, HT', trivial⟩
    case measure => have := HK1.out; simp [intOf]; omega
  ·go_wp2
   go_ret
   exact ⟨ret_int (idxF_none _ l (any_take_end (by omega) HA.out)).symm, rfl⟩
theorem contains_int (l : List Int) (n : Int) (v : Value) (w : World) (hv : IntsIn w.cell? v l) :
  Calls Tryd.prog 67 #[v, .int .i64 n] w (fun e w' => e = .returned (.bool (l.any fun y => decide (n = y))) ∧ w' = w) := by
 have HF := hide (idxF_any (fun y => decide (n = y)) l)
 have HH := hide (index_int l n v w hv)
 clear hv
 go_enter Tryd.func67, Tryd.ntmps67
 go_wp2_with fail
 refine HH.out.mono ?_
 rintro e w' ⟨rfl, hw⟩; obtain rfl := hw.symm
 go_wp2_with fail
 go_ret
 exact ⟨ret_bool HF.out, rfl⟩
theorem nats_any (p : List Nat) (x : Nat) : ((natsO p).any fun y => decide ((x : Int) = y)) = p.contains x := by
 unfold natsO
 rw [List.any_map, Bool.eq_iff_iff, List.any_eq_true]
 simp only [Function.comp, decide_eq_true_eq, List.contains_iff_mem]
 constructor
 ·rintro ⟨y, hy, e⟩
  obtain rfl : x = y := by omega
  exact hy
 ·exact fun h => ⟨x, h, rfl⟩
/-- the function value 'extend' -/
def extV (Ln Fd Af O Fb : Nat) : Value := .func (.func 66) #[] #[.pointer (some ⟨Ln, 0, none⟩), .pointer (some ⟨Fd, 0, none⟩), .pointer (some ⟨Af, 0, none⟩), .pointer (some ⟨O, 0, none⟩), .pointer (some ⟨Fb, 0, none⟩)]
/-- what stands while a cycle is sought -/
structure ExG (n : Nat) (A : RelO) (len Ln Fd Af O Fb : Nat) (pv fv : Value) (W : World) : Prop where
 bO : Blk W O [.int .i64 n, pv] 25
 bA : Blk W Af (lasC fun a => bitsO (A a)) 53
 bN : Blk W Ln [.int .i64 len] 3
 bD : Blk W Fd [fv] 26
 bF : Blk W Fb [extV Ln Fd Af O Fb] 82
section
variable {n len Ln Fd Af O Fb : Nat} {A : RelO} {pv fv : Value} {W : World}
theorem ExG.later {W' : World} (h : ExG n A len Ln Fd Af O Fb pv fv W) (hb : Below W.heap.size W W') : ExG n A len Ln Fd Af O Fb pv fv W' :=
 ⟨h.bO.later hb, h.bA.later hb, h.bN.later hb, h.bD.later hb, h.bF.later hb⟩
theorem ExG.put (h : ExG n A len Ln Fd Af O Fb pv fv W) (u : Value) : ExG n A len Ln Fd Af O Fb pv u (W.setCell ⟨Fd, 0, none⟩ u) :=
 ⟨h.bO.other (blk_ne h.bO h.bD (by decide)) _ _, h.bA.other (blk_ne h.bA h.bD (by decide)) _ _, h.bN.other (blk_ne h.bN h.bD (by decide)) _ _, h.bD.set 0 u, h.bF.other (blk_ne h.bF h.bD (by decide)) _ _⟩
/-- a change of an own block of integers from B on keeps it -/
theorem ExG.eff {W' : World} {B g c : Nat} {l : List Int} {v : Value} (h : ExG n A len Ln Fd Af O Fb pv fv W) (ho : OwnI W B v l) (hv : v = .slice (some ⟨g, 0, none⟩) l.length c) (hB : Ln < B) (hE : Eff (fun k => k = g) W W') : ExG n A len Ln Fd Af O Fb pv fv W' := by
 have hg : v.ownBlock = some g := by rw [hv]; rfl
 have hne : ∀ {b : Nat} {vs : List Value} {t : TypeId}, Blk W b vs t → t ≠ 3 → ¬ b = g := fun hb ht e => by subst e; exact ho.neT hb ht hg
 exact ⟨h.bO.eff hE (hne h.bO (by decide)), h.bA.eff hE (hne h.bA (by decide)), h.bN.eff hE (fun e => by have := (ho.ltB hg).1; omega), h.bD.eff hE (hne h.bD (by decide)), h.bF.eff hE (hne h.bF (by decide))⟩
end
/-- a call of 'extend' -/
def ExQ (n : Nat) (A : RelO) (len Ln Fd Af O Fb B : Nat) (pv : Value) (r : Option (List Nat)) (g c : Nat) (l : List Nat) (W : World) (e : Ending) (W' : World) : Prop :=
 ∃ fv, e = .returned (.bool r.isSome) ∧ ExG n A len Ln Fd Af O Fb pv fv W' ∧ OwnI W' B (.slice (some ⟨g, 0, none⟩) l.length c) (natsO l) ∧ Eff (fun k => k = g ∨ k = Fd) W W' ∧ ∀ d, r = some d → IntsIn (frm B W') fv (natsO d)
theorem natsO_at {l : List Nat} {i : Nat} : (natsO l).getD i 0 = ((l.getD i 0 : Nat) : Int) := by
 unfold natsO
 rw [List.getD_eq_getElem?_getD, List.getElem?_map, List.getD_eq_getElem?_getD]
 cases l[i]? <;> rfl
/-- an append that may write behind a path, in a region that draws its order -/
theorem step_path {W : World} {ops : Array Oper} {o : Oper} {T : Array Value} {D : List Deferred} {K : Act → World → Prop} {Q : Exit → Act → World → Prop} {E : Prop} (hw : Region.wanted o (yielded ops T) = true) (s x : Operand)
  (ho : o.op = .call { callee := .builtin .append, args := #[s, x], argTypes := #[26, 26] }) (B g m c nb : Nat) (l : List Int) (y : Int) (hm : l.length = m) (hs : Act.eval ⟨T, D⟩ s = .slice (some ⟨g, 0, none⟩) m c) (hown : OwnI W B (.slice (some ⟨g, 0, none⟩) m c) l)
  (hx : Act.eval ⟨T, D⟩ x = .slice (some ⟨nb, 0, none⟩) 1 1) (hr : Blk W nb [.int .i64 y] 3) (hl : m < 1000) (hB : B ≤ W.heap.size)
  (h : ∀ g' c' w', OwnI w' B (.slice (some ⟨g', 0, none⟩) (m + 1) c') (l ++ [y]) → OwnI w' B (.slice (some ⟨g, 0, none⟩) m c) l → Eff (fun k => k = g) W w' → ((g' = g ∧ c' = c) ∨ W.heap.size ≤ g') → K (Act.put ⟨T, D⟩ o.dst (.slice (some ⟨g', 0, none⟩) (m + 1) c')) w') :
  if Region.wanted o (yielded ops T) = true then Oper.wp Tryd.prog o ⟨T, D⟩ W K Q else E := by
 subst hm
 rw [if_pos hw]
 obtain ⟨g', c', w', hrun, h1, h2, h3, h4⟩ := run_app_path o.type hown hr hl hB
 unfold Oper.wp execOp
 simp only [ho, resolve, invoke, builtin, Sem.run_bind, Sem.run_pure, Result.andThen_ok, List.map_toArray, List.map_cons, List.map_nil, hs, hx, hrun]
 exact h g' c' w' h1 h2 h3 h4
/-- the path again, behind a call with the longer one -/
theorem ext_back {wr W W' : World} {B Fd g g' c c' m : Nat} {L : List Int} {y : Int} (hm : L.length = m) (hF : Fd < B) (hO : OwnI wr B (.slice (some ⟨g, 0, none⟩) m c) L) (hE : Eff (fun k => k = g ∨ k = Fd) wr W) (hW : OwnI W B (.slice (some ⟨g, 0, none⟩) m c) L)
  (h2 : OwnI W' B (.slice (some ⟨g', 0, none⟩) (m + 1) c') (L ++ [y])) (hE' : Eff (fun k => k = g' ∨ k = Fd) W W') (hd : (g' = g ∧ c' = c) ∨ wr.heap.size ≤ g') : OwnI W' B (.slice (some ⟨g, 0, none⟩) m c) L ∧ Eff (fun k => k = g ∨ k = Fd) wr W' := by
 subst hm
 have hg := hO.ltB (g := g) rfl
 refine ⟨?_, ?_⟩
 ·rcases hd with ⟨rfl, rfl⟩ | hd
  ·exact own_front h2
  ·refine hW.eff hE' fun g1 e1 e2 => ?_
   obtain rfl : g = g1 := Option.some.inj e1
   rcases e2 with e2 | e2 <;> omega
 ·refine Eff.mono (S := fun k => k = g ∨ k = g' ∨ k = Fd) ((hE.mono fun k _ e => e.imp id .inr).trans (hE'.mono fun k _ e => .inr e)) fun k hk e => ?_
  rcases e with e | e | e
  ·exact .inl e
  ·rcases hd with ⟨h, -⟩ | hd
   ·exact .inl (e.trans h)
   ·omega
  ·exact .inr e
set_option maxRecDepth 100000 in
set_option maxHeartbeats 2000000 in
theorem extend_any {n : Nat} {A : RelO} (hn : n ≤ 8) (len Ln Fd Af O Fb B : Nat) (pv : Value) (hlen : len ≤ 8) (hLB : Ln < B) (hFB : Fd < B) : ∀ (f : Nat) (l : List Nat) (g c : Nat) (fv : Value) (W : World), l ≠ [] → l.length + f = len → (∀ x ∈ l, x < n) → B ≤ W.heap.size → OwnI W B (.slice (some ⟨g, 0, none⟩) l.length c) (natsO l) → ExG n A len Ln Fd Af O Fb pv fv W →
  Calls Tryd.prog 66 #[.slice (some ⟨g, 0, none⟩) l.length c, .pointer (some ⟨Ln, 0, none⟩), .pointer (some ⟨Fd, 0, none⟩), .pointer (some ⟨Af, 0, none⟩), .pointer (some ⟨O, 0, none⟩), .pointer (some ⟨Fb, 0, none⟩)] W (ExQ n A len Ln Fd Af O Fb B pv (extC n A len f l) g c l W) := by
 intro f
 induction f with
 | zero =>
  intro l g c fv W h0 hl hx hB hO hG
  have hE0 : extC n A len 0 l = if A (lastO l) (l.getD 0 0) then some l else none := by
   show (if l.length = len then _ else _) = _
   rw [if_pos (by omega)]
  have hlp : 0 < l.length := List.length_pos_iff.2 h0
  obtain ⟨a', m', e', -, -, hc⟩ := hO.ints
  have hnl : (natsO l).length = l.length := by unfold natsO; rw [List.length_map]
  have hla : lastO l < n := hx _ (getD_mem l (l.length - 1) (d := 0) (by omega))
  have hfi : l.getD 0 0 < n := hx _ (getD_mem l 0 (d := 0) hlp)
  obtain ⟨b1, o1, eb1, c1⟩ := hc (l.length - 1) (by omega)
  obtain ⟨b2, o2, eb2, c2⟩ := hc 0 (by omega)
  obtain ⟨rfl, -, -⟩ := Value.slice.inj e'
  cases eb1
  cases eb2
  rw [natsO_at, Nat.zero_add] at c1
  rw [natsO_at, Nat.zero_add] at c2
  rw [show l.getD (l.length - 1) 0 = lastO l from rfl] at c1
  have HO := hide hO
  have HG := hide hG
  have HE0 := hide hE0
  have n0 := hG.bN.cell 0 rfl
  have f0 := hG.bD.cell 0 rfl
  have ff := hG.bD.frozen 0
  obtain ⟨m, hm⟩ : ∃ m, l.length = m + 1 := ⟨l.length - 1, by omega⟩
  rw [hm, Nat.add_sub_cancel] at c1
  have hm8 : m < 8 := by omega
  rw [show len = m + 1 by omega] at n0
  generalize lastO l = a at *
  generalize l.getD 0 0 = b at *
  have ha8 : a < 8 := by omega
  have hb8 : b < 8 := by omega
  have hb8I : (b : Int) < 8 := by omega
  have ha8I : (a : Int) < 8 := by omega
  obtain ⟨S, hS⟩ : ∃ S : Nat, bitsO (A a) = S := ⟨_, rfl⟩
  have hS8 : S < 256 := by rw [← hS]; exact bits_lt _
  have hbt := bit_test (k := b) hS8
  rw [← hS, bits_test, decide_eq_true hb8, Bool.true_and, hS] at hbt
  have HP := hide (hG.put (.slice (some ⟨g, 0, none⟩) l.length c))
  have a0 := HP.out.bA.cell a (lasC_get _ a ha8)
  rw [hS] at a0
  have HE1 : Hid (Eff (fun k => k = g ∨ k = Fd) W (W.setCell ⟨Fd, 0, none⟩ (.slice (some ⟨g, 0, none⟩) l.length c))) := hide ((Eff.setCell _ _ _ _).mono fun _ _ e => .inr e)
  have hgF : g ≠ Fd := by have := (hO.ltB (g := g) rfl).1; omega
  have HO1 : Hid (OwnI (W.setCell ⟨Fd, 0, none⟩ (.slice (some ⟨g, 0, none⟩) l.length c)) B (.slice (some ⟨g, 0, none⟩) l.length c) (natsO l)) := hide (hO.eff (Eff.setCell _ _ _ _) fun g' e1 e2 => hgF ((Option.some.inj e1).trans e2))
  have c3 : (W.setCell ⟨Fd, 0, none⟩ (.slice (some ⟨g, 0, none⟩) l.length c)).cell? ⟨g, 0, none⟩ = some (.int .i64 (b : Int)) := (World.cell?_of_block (Below.heap_setCell W ⟨Fd, 0, none⟩ _ g hgF)).trans c2
  generalize hq : l.length = q at *
  have HM := hide hq
  clear hq
  subst hm
  clear hO hG hE0 hS hc hnl hlp hx h0 hl e'
  go_enter Tryd.func66, Tryd.ntmps66
  go_upto_region 4 with (fail)
  generalize World.setCell W _ _ = V1 at *
  refine wp_region_still_tail 9 (by kernel_rfl) (by kernel_rfl) ?_
  simp only [List.take_succ_cons, List.take_zero, List.drop_succ_cons, List.drop_zero]
  repeat (with_reducible refine wpStill_step (fun K hK => ?_) ; go_simp ; with_reducible refine hK _ ?_ ; clear hK K)
  refine wpStill_nil ?_
  change wpList _ _ _ _ _ V1.drew
  go_wp2_with fail
  go_ret
  refine ⟨_, ?_, HP.out.later (Below.refl _ _).drew, (by rw [HM.out]; exact own_later HO1.out (Below.refl _ _).drew), HE1.out.trans (Eff.drew _ _), fun d hd => ?_⟩
  ·rw [HE0.out]
   cases A a b <;> rfl
  ·rw [HE0.out] at hd
   split at hd
   ·cases hd
    have h := (own_later HO1.out (Below.refl _ _).drew).intsF (Nat.le_refl _)
    exact h
   ·cases hd
 | succ f ih =>
  intro l g c fv W h0 hl hx hB hO hG
  have hE0 : extC n A len (f + 1) l = firstO (fun x => if A (lastO l) x && !l.contains x then extC n A len f (l ++ [x]) else none) n := by
   show (if l.length = len then _ else _) = _
   rw [if_neg (by omega)]
  have hlp : 0 < l.length := List.length_pos_iff.2 h0
  obtain ⟨a', m', e', -, -, hc⟩ := hO.ints
  have hnl : (natsO l).length = l.length := by unfold natsO; rw [List.length_map]
  have hla : lastO l < n := hx _ (getD_mem l (l.length - 1) (d := 0) (by omega))
  obtain ⟨b1, o1, eb1, c1⟩ := hc (l.length - 1) (by omega)
  obtain ⟨rfl, -, -⟩ := Value.slice.inj e'
  cases eb1
  rw [natsO_at, Nat.zero_add] at c1
  rw [show l.getD (l.length - 1) 0 = lastO l from rfl] at c1
  have HO := hide hO
  have HG := hide hG
  have n0 := hG.bN.cell 0 rfl
  have o0 := hG.bO.cell 0 rfl
  have HM : Hid (∀ x : Nat, (natsO l).any (fun y => decide ((x : Int) = y)) = l.contains x) := hide (fun x => by exact nats_any l x)
  obtain ⟨m, hm⟩ : ∃ m, l.length = m + 1 := ⟨l.length - 1, by omega⟩
  rw [hm, Nat.add_sub_cancel] at c1
  have hm8 : m < 7 := by omega
  have hml : ((m : Int) + 1 == (len : Int)) = false := by simp; omega
  have HIH := hide (fun x (hx1 : x < n) g c fv W hB hO hG => ih (l ++ [x]) g c fv W (by simp) (by rw [List.length_append, List.length_singleton]; omega) (fun y hy => by
   rcases List.mem_append.1 hy with h | h
   ·exact hx y h
   ·rw [List.mem_singleton.1 h]; exact hx1) hB hO hG)
  obtain ⟨H, hH⟩ : ∃ H : Nat → Option (List Nat), H = fun x => if A (lastO l) x && !l.contains x then extC n A len f (l ++ [x]) else none := ⟨_, rfl⟩
  rw [← hH] at hE0
  have HE0 := hide hE0
  have HH := hide (fun x => congrFun hH x)
  have HHT : Hid (∀ x c, (∀ y, y < x → H y = none) → x < n → H x = some c → extC n A len (f + 1) l = some c) := hide (fun x c h1 h2 h3 => by rw [hE0]; exact first_hit (first_none.2 h1) h3 h2)
  have HML := hide hm
  rw [hm] at hO ⊢
  generalize lastO l = a at *
  have ha8 : a < 8 := by omega
  have ha8I : (a : Int) < 8 := by omega
  obtain ⟨S, hS⟩ : ∃ S : Nat, bitsO (A a) = S := ⟨_, rfl⟩
  have hS8 : S < 256 := by rw [← hS]; exact bits_lt _
  have HBT := hide (fun (x : Nat) (hx8 : x < 8) => (show (bits BinOp.and IntKind.i64 ((S : Int) / 2 ^ x) 1 == 1) = A a x by
   have hbt := bit_test (k := x) hS8
   rw [← hS, bits_test, decide_eq_true hx8, Bool.true_and, hS] at hbt
   exact hbt))
  have HS := hide hS
  have HB := hide hB
  clear hO hG hE0 hS hc hnl hlp hx h0 hl e' ih hH hm hB
  go_enter Tryd.func66, Tryd.ntmps66
  go_wp2_with fail
  go_loopw [32] (fun i wr => ∃ (x : Nat) (fw : Value), x ≤ n ∧ i = .int .i64 x ∧ Hid (∀ y, y < x → H y = none) ∧ ExG n A len Ln Fd Af O Fb pv fw wr ∧ OwnI wr B (.slice (some ⟨g, 0, none⟩) (m + 1) c) (natsO l) ∧ Eff (fun k => k = g ∨ k = Fd) W wr) (fun i _ => n - (intOf i).toNat)
  case atStart => exact ⟨0, fv, by omega, rfl, hide (fun y h => by omega), HG.out.later (by first | exact Below.refl _ _ | exact (Below.refl _ _).drew), by (have h := HO.out; rw [HML.out] at h; first | exact h | exact own_later h (Below.refl _ _).drew), Eff.of_below (by first | exact Below.refl _ _ | exact (Below.refl _ _).drew) _⟩
  case round =>
   obtain ⟨x, fw, hxn, rfl, HN, hG, hO, hE⟩ := hrel
   by_cases hlt : x < n
   ·have hltI : (x : Int) < n := by omega
    have HK := hide hlt
    have hx8 : x < 8 := by omega
    have hx8I : (x : Int) < 8 := by omega
    have hbt := HBT.out x hx8
    have a0 := hG.bA.cell a (lasC_get _ a ha8)
    rw [HS.out] at a0
    have HHX := hide (HH.out x)
    have HNX : Hid (H x = none → ∀ y, y < x + 1 → H y = none) := hide (fun h y hy => by
     rcases Nat.lt_or_ge y x with h1 | h1
     ·exact HN.out y h1
     ·obtain rfl : y = x := by omega
      exact h)
    cases hA : A a x
    ·rw [hA] at hbt HHX
     have HN1 := hide (HNX.out (by rw [HHX.out]; rfl))
     have HG := hide hG
     have HO := hide hO
     have HE := hide hE
     clear hA hG hO hE
     go_wp2_with fail
     refine wp_region_still_tail 20 (by kernel_rfl) (by kernel_rfl) ?_
     simp only [List.take_succ_cons, List.take_zero, List.drop_succ_cons, List.drop_zero]
     repeat (with_reducible refine wpStill_step (fun K hK => ?_) ; go_simp ; with_reducible refine hK _ ?_ ; clear hK K)
     refine wpStill_nil ?_
     change wpList _ _ _ _ _ wr.drew
     have HG1 := hide (HG.out.later (Below.refl _ _).drew)
     have HO1 := hide (own_later HO.out (Below.refl _ _).drew)
     have HE1 := hide (HE.out.trans (Eff.drew wr _))
     go_wp2_with fail
     go_roundw
     case rel => exact ⟨x + 1, _, by have := HK.out; omega, by go_num, HN1, HG1.out, HO1.out, HE1.out⟩
     case measure => have := HK.out; simp [intOf]; omega
    ·rw [hA] at hbt HHX
     cases hin : l.contains x
     ·rw [hin] at HHX
      have HCX := hide (fun g' c' fw W hB hO hG => (show Calls Tryd.prog 66 #[.slice (some ⟨g', 0, none⟩) (m + 1 + 1) c', .pointer (some ⟨Ln, 0, none⟩), .pointer (some ⟨Fd, 0, none⟩), .pointer (some ⟨Af, 0, none⟩), .pointer (some ⟨O, 0, none⟩), .pointer (some ⟨Fb, 0, none⟩)] W (fun e W' => ∃ fv', e = .returned (.bool (extC n A len f (l ++ [x])).isSome) ∧ ExG n A len Ln Fd Af O Fb pv fv' W' ∧ OwnI W' B (.slice (some ⟨g', 0, none⟩) (m + 1 + 1) c') (natsO l ++ [(x : Int)]) ∧ Eff (fun k => k = g' ∨ k = Fd) W W' ∧ ∀ d, extC n A len f (l ++ [x]) = some d → IntsIn (frm B W') fv' (natsO d)) by
       have h := HIH.out x hlt g' c' fw W hB
       unfold ExQ at h
       rw [show (l ++ [x]).length = m + 1 + 1 by rw [List.length_append, HML.out]; rfl, natsO_snoc] at h
       exact h hO hG))
      have HLN : Hid ((natsO l).length = m + 1) := hide (by unfold natsO; rw [List.length_map, HML.out])
      have HCN := hide (fun W (ho : OwnI W B (.slice (some ⟨g, 0, none⟩) (m + 1) c) (natsO l)) => (show Calls Tryd.prog 67 #[.slice (some ⟨g, 0, none⟩) (m + 1) c, .int .i64 x] W (fun e w' => e = .returned (.bool false) ∧ w' = W) by
       have h := contains_int (natsO l) x _ W ho.ints
       rw [HM.out x, hin] at h
       exact h))
      have HG := hide hG
      have HO := hide hO
      have HE := hide hE
      have HSZ := hide (Nat.le_trans HB.out hE.size)
      clear hA hin hG hO hE
      go_wp2_with fail
      refine wp_region_inv [some 35, some 36, some 37, some 38, some 39, some 40, some 41, some 42, some 43, some 44, some 45, some 46, some 47, some 48, some 49, some 50, some 51, some 52, some 53, some 54, some 55] (fun L vs W => match vs with | [x0, x1, x2, x3, x4, x5, x6, x7, x8, x9, x10, x11, x12, x13, x14, x15, x16, x17, x18, x19, x20] => ((∃ fw, ExG n A len Ln Fd Af O Fb pv fw W) ∧ OwnI W B (.slice (some ⟨g, 0, none⟩) (m + 1) c) (natsO l) ∧ Eff (fun k => k = g ∨ k = Fd) wr W) ∧ (L 0 = true → x0 = .int .i64 a) ∧ (L 1 = true → x1 = .pointer (some ⟨Af, a, none⟩)) ∧ (L 2 = true → x2 = .int .i64 (S : Int)) ∧ (L 3 = true → x3 = .int .i64 x) ∧ (L 4 = true → x4 = .int .i64 ((S : Int) / 2 ^ x)) ∧ (L 5 = true → x5 = .int .i64 (bits BinOp.and IntKind.i64 ((S : Int) / 2 ^ x) 1)) ∧ (L 6 = true → x6 = .bool true) ∧ (L 7 = true → x7 = .bool true) ∧ (L 8 = true → x8 = .slice (some ⟨g, 0, none⟩) (m + 1) c) ∧ (L 9 = true → x9 = .int .i64 x) ∧ (L 10 = true → x10 = .bool false) ∧ (L 11 = true → x11 = .bool true) ∧ (L 12 = true → x12 = .bool true) ∧ (L 13 = true → x13 = .bool true) ∧ (L 14 = true → x14 = .func (.func 66) #[] #[.pointer (some ⟨Ln, 0, none⟩), .pointer (some ⟨Fd, 0, none⟩), .pointer (some ⟨Af, 0, none⟩), .pointer (some ⟨O, 0, none⟩), .pointer (some ⟨Fb, 0, none⟩)]) ∧ (L 15 = true → x15 = .slice (some ⟨g, 0, none⟩) (m + 1) c) ∧ (L 16 = true → x16 = .int .i64 x) ∧ (L 17 = true → L 18 = false → ∃ b0 : Nat, x17 = .slice (some ⟨b0, 0, none⟩) 1 1 ∧ Blk W b0 [.int .i64 x] 3) ∧ (L 18 = true → L 17 = true ∧ (L 19 = false → ∃ g' c', x18 = .slice (some ⟨g', 0, none⟩) (m + 1 + 1) c' ∧ OwnI W B (.slice (some ⟨g', 0, none⟩) (m + 1 + 1) c') (natsO l ++ [(x : Int)]) ∧ ((g' = g ∧ c' = c) ∨ wr.heap.size ≤ g'))) ∧ (L 19 = true → (L 17 = true ∧ L 18 = true) ∧ x19 = .bool (extC n A len f (l ++ [x])).isSome ∧ ∃ fv', ExG n A len Ln Fd Af O Fb pv fv' W ∧ ∀ d, extC n A len f (l ++ [x]) = some d → IntsIn (frm B W) fv' (natsO d)) ∧ (L 20 = true → (L 19 = true ∧ L 17 = true ∧ L 18 = true) ∧ x20 = .bool (extC n A len f (l ++ [x])).isSome ∧ ∃ fv', ExG n A len Ln Fd Af O Fb pv fv' W ∧ ∀ d, extC n A len f (l ++ [x]) = some d → IntsIn (frm B W) fv' (natsO d)) | _ => False) [_, _, _, _, _, _, _, _, _, _, _, _, _, _, _, _, _, _, _, _, _] (by kernel_rfl) (by kernel_rfl) rfl (by simp only [puts, Act.put, List.setIfInBounds_toArray, List.set_cons_zero, List.set_cons_succ] <;> rfl) ?_ ?_ ?_
      ·exact ⟨⟨⟨_, HG.out.later (Below.refl _ _).drew⟩, own_later HO.out (Below.refl _ _).drew, Eff.drew _ _⟩, (fun h => by cases h), (fun h => by cases h), (fun h => by cases h), (fun h => by cases h), (fun h => by cases h), (fun h => by cases h), (fun h => by cases h), (fun h => by cases h), (fun h => by cases h), (fun h => by cases h), (fun h => by cases h), (fun h => by cases h), (fun h => by cases h), (fun h => by cases h), (fun h => by cases h), (fun h => by cases h), (fun h => by cases h), (fun h => by cases h), (fun h => by cases h), (fun h => by cases h), (fun h => by cases h)⟩
      ·refine ⟨?_, ?_, ?_, ?_, ?_, ?_, ?_, ?_, ?_, ?_, ?_, ?_, ?_, ?_, ?_, ?_, ?_, ?_, ?_, ?_, ?_, trivial⟩
       ·intro L vs W hlen hL hD hI K hK
        obtain ⟨x0, x1, x2, x3, x4, x5, x6, x7, x8, x9, x10, x11, x12, x13, x14, x15, x16, x17, x18, x19, x20, rfl⟩ := len21 hlen
        have hG := hI.1
        replace hI := hI.2
        have f0 := hide hI.1
        replace hI := hI.2
        have f1 := hide hI.1
        replace hI := hI.2
        have f2 := hide hI.1
        replace hI := hI.2
        have f3 := hide hI.1
        replace hI := hI.2
        have f4 := hide hI.1
        replace hI := hI.2
        have f5 := hide hI.1
        replace hI := hI.2
        have f6 := hide hI.1
        replace hI := hI.2
        have f7 := hide hI.1
        replace hI := hI.2
        have f8 := hide hI.1
        replace hI := hI.2
        have f9 := hide hI.1
        replace hI := hI.2
        have f10 := hide hI.1
        replace hI := hI.2
        have f11 := hide hI.1
        replace hI := hI.2
        have f12 := hide hI.1
        replace hI := hI.2
        have f13 := hide hI.1
        replace hI := hI.2
        have f14 := hide hI.1
        replace hI := hI.2
        have f15 := hide hI.1
        replace hI := hI.2
        have f16 := hide hI.1
        replace hI := hI.2
        have f17 := hide hI.1
        replace hI := hI.2
        have f18 := hide hI.1
        replace hI := hI.2
        have f19 := hide hI.1
        replace hI := hI.2
        have f20 := hide hI
        clear hI
        try simp only [puts, Act.put, List.setIfInBounds_toArray, List.set_cons_zero, List.set_cons_succ]
        try go_simp
        exact hK.out _ _ _ (by simp only [puts, Act.put, List.setIfInBounds_toArray, List.set_cons_zero, List.set_cons_succ] <;> rfl) ⟨hG, (fun _ => rfl), (fun h => f1.out h), (fun h => f2.out h), (fun h => f3.out h), (fun h => f4.out h), (fun h => f5.out h), (fun h => f6.out h), (fun h => f7.out h), (fun h => f8.out h), (fun h => f9.out h), (fun h => f10.out h), (fun h => f11.out h), (fun h => f12.out h), (fun h => f13.out h), (fun h => f14.out h), (fun h => f15.out h), (fun h => f16.out h), (fun h => f17.out h), (fun h => f18.out h), (fun h => f19.out h), (fun h => f20.out h)⟩
       ·intro L vs W hlen hL hD hI K hK
        obtain ⟨x0, x1, x2, x3, x4, x5, x6, x7, x8, x9, x10, x11, x12, x13, x14, x15, x16, x17, x18, x19, x20, rfl⟩ := len21 hlen
        have hG := hI.1
        replace hI := hI.2
        have f0 := hide hI.1
        replace hI := hI.2
        have f1 := hide hI.1
        replace hI := hI.2
        have f2 := hide hI.1
        replace hI := hI.2
        have f3 := hide hI.1
        replace hI := hI.2
        have f4 := hide hI.1
        replace hI := hI.2
        have f5 := hide hI.1
        replace hI := hI.2
        have f6 := hide hI.1
        replace hI := hI.2
        have f7 := hide hI.1
        replace hI := hI.2
        have f8 := hide hI.1
        replace hI := hI.2
        have f9 := hide hI.1
        replace hI := hI.2
        have f10 := hide hI.1
        replace hI := hI.2
        have f11 := hide hI.1
        replace hI := hI.2
        have f12 := hide hI.1
        replace hI := hI.2
        have f13 := hide hI.1
        replace hI := hI.2
        have f14 := hide hI.1
        replace hI := hI.2
        have f15 := hide hI.1
        replace hI := hI.2
        have f16 := hide hI.1
        replace hI := hI.2
        have f17 := hide hI.1
        replace hI := hI.2
        have f18 := hide hI.1
        replace hI := hI.2
        have f19 := hide hI.1
        replace hI := hI.2
        have f20 := hide hI
        clear hI
        obtain rfl := f0.out (hD.on 0 (by kernel_rfl))
        try simp only [puts, Act.put, List.setIfInBounds_toArray, List.set_cons_zero, List.set_cons_succ]
        try go_simp
        exact hK.out _ _ _ (by simp only [puts, Act.put, List.setIfInBounds_toArray, List.set_cons_zero, List.set_cons_succ] <;> rfl) ⟨hG, (fun h => f0.out h), (fun _ => rfl), (fun h => f2.out h), (fun h => f3.out h), (fun h => f4.out h), (fun h => f5.out h), (fun h => f6.out h), (fun h => f7.out h), (fun h => f8.out h), (fun h => f9.out h), (fun h => f10.out h), (fun h => f11.out h), (fun h => f12.out h), (fun h => f13.out h), (fun h => f14.out h), (fun h => f15.out h), (fun h => f16.out h), (fun h => f17.out h), (fun h => f18.out h), (fun h => f19.out h), (fun h => f20.out h)⟩
       ·intro L vs W hlen hL hD hI K hK
        obtain ⟨x0, x1, x2, x3, x4, x5, x6, x7, x8, x9, x10, x11, x12, x13, x14, x15, x16, x17, x18, x19, x20, rfl⟩ := len21 hlen
        have hG := hI.1
        replace hI := hI.2
        have f0 := hide hI.1
        replace hI := hI.2
        have f1 := hide hI.1
        replace hI := hI.2
        have f2 := hide hI.1
        replace hI := hI.2
        have f3 := hide hI.1
        replace hI := hI.2
        have f4 := hide hI.1
        replace hI := hI.2
        have f5 := hide hI.1
        replace hI := hI.2
        have f6 := hide hI.1
        replace hI := hI.2
        have f7 := hide hI.1
        replace hI := hI.2
        have f8 := hide hI.1
        replace hI := hI.2
        have f9 := hide hI.1
        replace hI := hI.2
        have f10 := hide hI.1
        replace hI := hI.2
        have f11 := hide hI.1
        replace hI := hI.2
        have f12 := hide hI.1
        replace hI := hI.2
        have f13 := hide hI.1
        replace hI := hI.2
        have f14 := hide hI.1
        replace hI := hI.2
        have f15 := hide hI.1
        replace hI := hI.2
        have f16 := hide hI.1
        replace hI := hI.2
        have f17 := hide hI.1
        replace hI := hI.2
        have f18 := hide hI.1
        replace hI := hI.2
        have f19 := hide hI.1
        replace hI := hI.2
        have f20 := hide hI
        clear hI
        obtain rfl := f1.out (hD.on 1 (by kernel_rfl))
        try simp only [puts, Act.put, List.setIfInBounds_toArray, List.set_cons_zero, List.set_cons_succ]
        obtain ⟨fq, hq⟩ := hG.1
        have z0 := hq.bA.cell a (lasC_get _ a ha8)
        rw [HS.out] at z0
        go_simp
        exact hK.out _ _ _ (by simp only [puts, Act.put, List.setIfInBounds_toArray, List.set_cons_zero, List.set_cons_succ] <;> rfl) ⟨hG, (fun h => f0.out h), (fun h => f1.out h), (fun _ => rfl), (fun h => f3.out h), (fun h => f4.out h), (fun h => f5.out h), (fun h => f6.out h), (fun h => f7.out h), (fun h => f8.out h), (fun h => f9.out h), (fun h => f10.out h), (fun h => f11.out h), (fun h => f12.out h), (fun h => f13.out h), (fun h => f14.out h), (fun h => f15.out h), (fun h => f16.out h), (fun h => f17.out h), (fun h => f18.out h), (fun h => f19.out h), (fun h => f20.out h)⟩
       ·intro L vs W hlen hL hD hI K hK
        obtain ⟨x0, x1, x2, x3, x4, x5, x6, x7, x8, x9, x10, x11, x12, x13, x14, x15, x16, x17, x18, x19, x20, rfl⟩ := len21 hlen
        have hG := hI.1
        replace hI := hI.2
        have f0 := hide hI.1
        replace hI := hI.2
        have f1 := hide hI.1
        replace hI := hI.2
        have f2 := hide hI.1
        replace hI := hI.2
        have f3 := hide hI.1
        replace hI := hI.2
        have f4 := hide hI.1
        replace hI := hI.2
        have f5 := hide hI.1
        replace hI := hI.2
        have f6 := hide hI.1
        replace hI := hI.2
        have f7 := hide hI.1
        replace hI := hI.2
        have f8 := hide hI.1
        replace hI := hI.2
        have f9 := hide hI.1
        replace hI := hI.2
        have f10 := hide hI.1
        replace hI := hI.2
        have f11 := hide hI.1
        replace hI := hI.2
        have f12 := hide hI.1
        replace hI := hI.2
        have f13 := hide hI.1
        replace hI := hI.2
        have f14 := hide hI.1
        replace hI := hI.2
        have f15 := hide hI.1
        replace hI := hI.2
        have f16 := hide hI.1
        replace hI := hI.2
        have f17 := hide hI.1
        replace hI := hI.2
        have f18 := hide hI.1
        replace hI := hI.2
        have f19 := hide hI.1
        replace hI := hI.2
        have f20 := hide hI
        clear hI
        try simp only [puts, Act.put, List.setIfInBounds_toArray, List.set_cons_zero, List.set_cons_succ]
        try go_simp
        exact hK.out _ _ _ (by simp only [puts, Act.put, List.setIfInBounds_toArray, List.set_cons_zero, List.set_cons_succ] <;> rfl) ⟨hG, (fun h => f0.out h), (fun h => f1.out h), (fun h => f2.out h), (fun _ => rfl), (fun h => f4.out h), (fun h => f5.out h), (fun h => f6.out h), (fun h => f7.out h), (fun h => f8.out h), (fun h => f9.out h), (fun h => f10.out h), (fun h => f11.out h), (fun h => f12.out h), (fun h => f13.out h), (fun h => f14.out h), (fun h => f15.out h), (fun h => f16.out h), (fun h => f17.out h), (fun h => f18.out h), (fun h => f19.out h), (fun h => f20.out h)⟩
       ·intro L vs W hlen hL hD hI K hK
        obtain ⟨x0, x1, x2, x3, x4, x5, x6, x7, x8, x9, x10, x11, x12, x13, x14, x15, x16, x17, x18, x19, x20, rfl⟩ := len21 hlen
        have hG := hI.1
        replace hI := hI.2
        have f0 := hide hI.1
        replace hI := hI.2
        have f1 := hide hI.1
        replace hI := hI.2
        have f2 := hide hI.1
        replace hI := hI.2
        have f3 := hide hI.1
        replace hI := hI.2
        have f4 := hide hI.1
        replace hI := hI.2
        have f5 := hide hI.1
        replace hI := hI.2
        have f6 := hide hI.1
        replace hI := hI.2
        have f7 := hide hI.1
        replace hI := hI.2
        have f8 := hide hI.1
        replace hI := hI.2
        have f9 := hide hI.1
        replace hI := hI.2
        have f10 := hide hI.1
        replace hI := hI.2
        have f11 := hide hI.1
        replace hI := hI.2
        have f12 := hide hI.1
        replace hI := hI.2
        have f13 := hide hI.1
        replace hI := hI.2
        have f14 := hide hI.1
        replace hI := hI.2
        have f15 := hide hI.1
        replace hI := hI.2
        have f16 := hide hI.1
        replace hI := hI.2
        have f17 := hide hI.1
        replace hI := hI.2
        have f18 := hide hI.1
        replace hI := hI.2
        have f19 := hide hI.1
        replace hI := hI.2
        have f20 := hide hI
        clear hI
        obtain rfl := f2.out (hD.on 2 (by kernel_rfl))
        obtain rfl := f3.out (hD.on 3 (by kernel_rfl))
        try simp only [puts, Act.put, List.setIfInBounds_toArray, List.set_cons_zero, List.set_cons_succ]
        try go_simp
        exact hK.out _ _ _ (by simp only [puts, Act.put, List.setIfInBounds_toArray, List.set_cons_zero, List.set_cons_succ] <;> rfl) ⟨hG, (fun h => f0.out h), (fun h => f1.out h), (fun h => f2.out h), (fun h => f3.out h), (fun _ => rfl), (fun h => f5.out h), (fun h => f6.out h), (fun h => f7.out h), (fun h => f8.out h), (fun h => f9.out h), (fun h => f10.out h), (fun h => f11.out h), (fun h => f12.out h), (fun h => f13.out h), (fun h => f14.out h), (fun h => f15.out h), (fun h => f16.out h), (fun h => f17.out h), (fun h => f18.out h), (fun h => f19.out h), (fun h => f20.out h)⟩
       ·intro L vs W hlen hL hD hI K hK
        obtain ⟨x0, x1, x2, x3, x4, x5, x6, x7, x8, x9, x10, x11, x12, x13, x14, x15, x16, x17, x18, x19, x20, rfl⟩ := len21 hlen
        have hG := hI.1
        replace hI := hI.2
        have f0 := hide hI.1
        replace hI := hI.2
        have f1 := hide hI.1
        replace hI := hI.2
        have f2 := hide hI.1
        replace hI := hI.2
        have f3 := hide hI.1
        replace hI := hI.2
        have f4 := hide hI.1
        replace hI := hI.2
        have f5 := hide hI.1
        replace hI := hI.2
        have f6 := hide hI.1
        replace hI := hI.2
        have f7 := hide hI.1
        replace hI := hI.2
        have f8 := hide hI.1
        replace hI := hI.2
        have f9 := hide hI.1
        replace hI := hI.2
        have f10 := hide hI.1
        replace hI := hI.2
        have f11 := hide hI.1
        replace hI := hI.2
        have f12 := hide hI.1
        replace hI := hI.2
        have f13 := hide hI.1
        replace hI := hI.2
        have f14 := hide hI.1
        replace hI := hI.2
        have f15 := hide hI.1
        replace hI := hI.2
        have f16 := hide hI.1
        replace hI := hI.2
        have f17 := hide hI.1
        replace hI := hI.2
        have f18 := hide hI.1
        replace hI := hI.2
        have f19 := hide hI.1
        replace hI := hI.2
        have f20 := hide hI
        clear hI
        obtain rfl := f4.out (hD.on 4 (by kernel_rfl))
        try simp only [puts, Act.put, List.setIfInBounds_toArray, List.set_cons_zero, List.set_cons_succ]
        try go_simp
        exact hK.out _ _ _ (by simp only [puts, Act.put, List.setIfInBounds_toArray, List.set_cons_zero, List.set_cons_succ] <;> rfl) ⟨hG, (fun h => f0.out h), (fun h => f1.out h), (fun h => f2.out h), (fun h => f3.out h), (fun h => f4.out h), (fun _ => rfl), (fun h => f6.out h), (fun h => f7.out h), (fun h => f8.out h), (fun h => f9.out h), (fun h => f10.out h), (fun h => f11.out h), (fun h => f12.out h), (fun h => f13.out h), (fun h => f14.out h), (fun h => f15.out h), (fun h => f16.out h), (fun h => f17.out h), (fun h => f18.out h), (fun h => f19.out h), (fun h => f20.out h)⟩
       ·intro L vs W hlen hL hD hI K hK
        obtain ⟨x0, x1, x2, x3, x4, x5, x6, x7, x8, x9, x10, x11, x12, x13, x14, x15, x16, x17, x18, x19, x20, rfl⟩ := len21 hlen
        have hG := hI.1
        replace hI := hI.2
        have f0 := hide hI.1
        replace hI := hI.2
        have f1 := hide hI.1
        replace hI := hI.2
        have f2 := hide hI.1
        replace hI := hI.2
        have f3 := hide hI.1
        replace hI := hI.2
        have f4 := hide hI.1
        replace hI := hI.2
        have f5 := hide hI.1
        replace hI := hI.2
        have f6 := hide hI.1
        replace hI := hI.2
        have f7 := hide hI.1
        replace hI := hI.2
        have f8 := hide hI.1
        replace hI := hI.2
        have f9 := hide hI.1
        replace hI := hI.2
        have f10 := hide hI.1
        replace hI := hI.2
        have f11 := hide hI.1
        replace hI := hI.2
        have f12 := hide hI.1
        replace hI := hI.2
        have f13 := hide hI.1
        replace hI := hI.2
        have f14 := hide hI.1
        replace hI := hI.2
        have f15 := hide hI.1
        replace hI := hI.2
        have f16 := hide hI.1
        replace hI := hI.2
        have f17 := hide hI.1
        replace hI := hI.2
        have f18 := hide hI.1
        replace hI := hI.2
        have f19 := hide hI.1
        replace hI := hI.2
        have f20 := hide hI
        clear hI
        obtain rfl := f5.out (hD.on 5 (by kernel_rfl))
        try simp only [puts, Act.put, List.setIfInBounds_toArray, List.set_cons_zero, List.set_cons_succ]
        try go_simp
        exact hK.out _ _ _ (by simp only [puts, Act.put, List.setIfInBounds_toArray, List.set_cons_zero, List.set_cons_succ] <;> rfl) ⟨hG, (fun h => f0.out h), (fun h => f1.out h), (fun h => f2.out h), (fun h => f3.out h), (fun h => f4.out h), (fun h => f5.out h), (fun _ => rfl), (fun h => f7.out h), (fun h => f8.out h), (fun h => f9.out h), (fun h => f10.out h), (fun h => f11.out h), (fun h => f12.out h), (fun h => f13.out h), (fun h => f14.out h), (fun h => f15.out h), (fun h => f16.out h), (fun h => f17.out h), (fun h => f18.out h), (fun h => f19.out h), (fun h => f20.out h)⟩
       ·intro L vs W hlen hL hD hI K hK
        obtain ⟨x0, x1, x2, x3, x4, x5, x6, x7, x8, x9, x10, x11, x12, x13, x14, x15, x16, x17, x18, x19, x20, rfl⟩ := len21 hlen
        have hG := hI.1
        replace hI := hI.2
        have f0 := hide hI.1
        replace hI := hI.2
        have f1 := hide hI.1
        replace hI := hI.2
        have f2 := hide hI.1
        replace hI := hI.2
        have f3 := hide hI.1
        replace hI := hI.2
        have f4 := hide hI.1
        replace hI := hI.2
        have f5 := hide hI.1
        replace hI := hI.2
        have f6 := hide hI.1
        replace hI := hI.2
        have f7 := hide hI.1
        replace hI := hI.2
        have f8 := hide hI.1
        replace hI := hI.2
        have f9 := hide hI.1
        replace hI := hI.2
        have f10 := hide hI.1
        replace hI := hI.2
        have f11 := hide hI.1
        replace hI := hI.2
        have f12 := hide hI.1
        replace hI := hI.2
        have f13 := hide hI.1
        replace hI := hI.2
        have f14 := hide hI.1
        replace hI := hI.2
        have f15 := hide hI.1
        replace hI := hI.2
        have f16 := hide hI.1
        replace hI := hI.2
        have f17 := hide hI.1
        replace hI := hI.2
        have f18 := hide hI.1
        replace hI := hI.2
        have f19 := hide hI.1
        replace hI := hI.2
        have f20 := hide hI
        clear hI
        obtain rfl := f6.out (hD.on 6 (by kernel_rfl))
        try simp only [puts, Act.put, List.setIfInBounds_toArray, List.set_cons_zero, List.set_cons_succ]
        try go_simp
        exact hK.out _ _ _ (by simp only [puts, Act.put, List.setIfInBounds_toArray, List.set_cons_zero, List.set_cons_succ] <;> rfl) ⟨hG, (fun h => f0.out h), (fun h => f1.out h), (fun h => f2.out h), (fun h => f3.out h), (fun h => f4.out h), (fun h => f5.out h), (fun h => f6.out h), (fun _ => rfl), (fun h => f8.out h), (fun h => f9.out h), (fun h => f10.out h), (fun h => f11.out h), (fun h => f12.out h), (fun h => f13.out h), (fun h => f14.out h), (fun h => f15.out h), (fun h => f16.out h), (fun h => f17.out h), (fun h => f18.out h), (fun h => f19.out h), (fun h => f20.out h)⟩
       ·intro L vs W hlen hL hD hI K hK
        obtain ⟨x0, x1, x2, x3, x4, x5, x6, x7, x8, x9, x10, x11, x12, x13, x14, x15, x16, x17, x18, x19, x20, rfl⟩ := len21 hlen
        have hG := hI.1
        replace hI := hI.2
        have f0 := hide hI.1
        replace hI := hI.2
        have f1 := hide hI.1
        replace hI := hI.2
        have f2 := hide hI.1
        replace hI := hI.2
        have f3 := hide hI.1
        replace hI := hI.2
        have f4 := hide hI.1
        replace hI := hI.2
        have f5 := hide hI.1
        replace hI := hI.2
        have f6 := hide hI.1
        replace hI := hI.2
        have f7 := hide hI.1
        replace hI := hI.2
        have f8 := hide hI.1
        replace hI := hI.2
        have f9 := hide hI.1
        replace hI := hI.2
        have f10 := hide hI.1
        replace hI := hI.2
        have f11 := hide hI.1
        replace hI := hI.2
        have f12 := hide hI.1
        replace hI := hI.2
        have f13 := hide hI.1
        replace hI := hI.2
        have f14 := hide hI.1
        replace hI := hI.2
        have f15 := hide hI.1
        replace hI := hI.2
        have f16 := hide hI.1
        replace hI := hI.2
        have f17 := hide hI.1
        replace hI := hI.2
        have f18 := hide hI.1
        replace hI := hI.2
        have f19 := hide hI.1
        replace hI := hI.2
        have f20 := hide hI
        clear hI
        obtain rfl := f7.out (hD.on 7 (by kernel_rfl))
        try simp only [puts, Act.put, List.setIfInBounds_toArray, List.set_cons_zero, List.set_cons_succ]
        try go_simp
        exact hK.out _ _ _ (by simp only [puts, Act.put, List.setIfInBounds_toArray, List.set_cons_zero, List.set_cons_succ] <;> rfl) ⟨hG, (fun h => f0.out h), (fun h => f1.out h), (fun h => f2.out h), (fun h => f3.out h), (fun h => f4.out h), (fun h => f5.out h), (fun h => f6.out h), (fun h => f7.out h), (fun _ => rfl), (fun h => f9.out h), (fun h => f10.out h), (fun h => f11.out h), (fun h => f12.out h), (fun h => f13.out h), (fun h => f14.out h), (fun h => f15.out h), (fun h => f16.out h), (fun h => f17.out h), (fun h => f18.out h), (fun h => f19.out h), (fun h => f20.out h)⟩
       ·intro L vs W hlen hL hD hI K hK
        obtain ⟨x0, x1, x2, x3, x4, x5, x6, x7, x8, x9, x10, x11, x12, x13, x14, x15, x16, x17, x18, x19, x20, rfl⟩ := len21 hlen
        have hG := hI.1
        replace hI := hI.2
        have f0 := hide hI.1
        replace hI := hI.2
        have f1 := hide hI.1
        replace hI := hI.2
        have f2 := hide hI.1
        replace hI := hI.2
        have f3 := hide hI.1
        replace hI := hI.2
        have f4 := hide hI.1
        replace hI := hI.2
        have f5 := hide hI.1
        replace hI := hI.2
        have f6 := hide hI.1
        replace hI := hI.2
        have f7 := hide hI.1
        replace hI := hI.2
        have f8 := hide hI.1
        replace hI := hI.2
        have f9 := hide hI.1
        replace hI := hI.2
        have f10 := hide hI.1
        replace hI := hI.2
        have f11 := hide hI.1
        replace hI := hI.2
        have f12 := hide hI.1
        replace hI := hI.2
        have f13 := hide hI.1
        replace hI := hI.2
        have f14 := hide hI.1
        replace hI := hI.2
        have f15 := hide hI.1
        replace hI := hI.2
        have f16 := hide hI.1
        replace hI := hI.2
        have f17 := hide hI.1
        replace hI := hI.2
        have f18 := hide hI.1
        replace hI := hI.2
        have f19 := hide hI.1
        replace hI := hI.2
        have f20 := hide hI
        clear hI
        obtain rfl := f7.out (hD.on 7 (by kernel_rfl))
        try simp only [puts, Act.put, List.setIfInBounds_toArray, List.set_cons_zero, List.set_cons_succ]
        try go_simp
        exact hK.out _ _ _ (by simp only [puts, Act.put, List.setIfInBounds_toArray, List.set_cons_zero, List.set_cons_succ] <;> rfl) ⟨hG, (fun h => f0.out h), (fun h => f1.out h), (fun h => f2.out h), (fun h => f3.out h), (fun h => f4.out h), (fun h => f5.out h), (fun h => f6.out h), (fun h => f7.out h), (fun h => f8.out h), (fun _ => rfl), (fun h => f10.out h), (fun h => f11.out h), (fun h => f12.out h), (fun h => f13.out h), (fun h => f14.out h), (fun h => f15.out h), (fun h => f16.out h), (fun h => f17.out h), (fun h => f18.out h), (fun h => f19.out h), (fun h => f20.out h)⟩
       ·intro L vs W hlen hL hD hI K hK
        obtain ⟨x0, x1, x2, x3, x4, x5, x6, x7, x8, x9, x10, x11, x12, x13, x14, x15, x16, x17, x18, x19, x20, rfl⟩ := len21 hlen
        have hG := hI.1
        replace hI := hI.2
        have f0 := hide hI.1
        replace hI := hI.2
        have f1 := hide hI.1
        replace hI := hI.2
        have f2 := hide hI.1
        replace hI := hI.2
        have f3 := hide hI.1
        replace hI := hI.2
        have f4 := hide hI.1
        replace hI := hI.2
        have f5 := hide hI.1
        replace hI := hI.2
        have f6 := hide hI.1
        replace hI := hI.2
        have f7 := hide hI.1
        replace hI := hI.2
        have f8 := hide hI.1
        replace hI := hI.2
        have f9 := hide hI.1
        replace hI := hI.2
        have f10 := hide hI.1
        replace hI := hI.2
        have f11 := hide hI.1
        replace hI := hI.2
        have f12 := hide hI.1
        replace hI := hI.2
        have f13 := hide hI.1
        replace hI := hI.2
        have f14 := hide hI.1
        replace hI := hI.2
        have f15 := hide hI.1
        replace hI := hI.2
        have f16 := hide hI.1
        replace hI := hI.2
        have f17 := hide hI.1
        replace hI := hI.2
        have f18 := hide hI.1
        replace hI := hI.2
        have f19 := hide hI.1
        replace hI := hI.2
        have f20 := hide hI
        clear hI
        obtain rfl := f7.out (hD.on 7 (by kernel_rfl))
        obtain rfl := f8.out (hD.on 8 (by kernel_rfl))
        obtain rfl := f9.out (hD.on 9 (by kernel_rfl))
        try simp only [puts, Act.put, List.setIfInBounds_toArray, List.set_cons_zero, List.set_cons_succ]
        try go_simp
        have HC1 := hide (HCN.out W hG.2.1)
        refine HC1.out.mono ?_
        rintro e W' ⟨rfl, rfl⟩
        try go_simp
        exact hK.out _ _ _ (by simp only [puts, Act.put, List.setIfInBounds_toArray, List.set_cons_zero, List.set_cons_succ] <;> rfl) ⟨hG, (fun h => f0.out h), (fun h => f1.out h), (fun h => f2.out h), (fun h => f3.out h), (fun h => f4.out h), (fun h => f5.out h), (fun h => f6.out h), (fun h => f7.out h), (fun h => f8.out h), (fun h => f9.out h), (fun _ => rfl), (fun h => f11.out h), (fun h => f12.out h), (fun h => f13.out h), (fun h => f14.out h), (fun h => f15.out h), (fun h => f16.out h), (fun h => f17.out h), (fun h => f18.out h), (fun h => f19.out h), (fun h => f20.out h)⟩
       ·intro L vs W hlen hL hD hI K hK
        obtain ⟨x0, x1, x2, x3, x4, x5, x6, x7, x8, x9, x10, x11, x12, x13, x14, x15, x16, x17, x18, x19, x20, rfl⟩ := len21 hlen
        have hG := hI.1
        replace hI := hI.2
        have f0 := hide hI.1
        replace hI := hI.2
        have f1 := hide hI.1
        replace hI := hI.2
        have f2 := hide hI.1
        replace hI := hI.2
        have f3 := hide hI.1
        replace hI := hI.2
        have f4 := hide hI.1
        replace hI := hI.2
        have f5 := hide hI.1
        replace hI := hI.2
        have f6 := hide hI.1
        replace hI := hI.2
        have f7 := hide hI.1
        replace hI := hI.2
        have f8 := hide hI.1
        replace hI := hI.2
        have f9 := hide hI.1
        replace hI := hI.2
        have f10 := hide hI.1
        replace hI := hI.2
        have f11 := hide hI.1
        replace hI := hI.2
        have f12 := hide hI.1
        replace hI := hI.2
        have f13 := hide hI.1
        replace hI := hI.2
        have f14 := hide hI.1
        replace hI := hI.2
        have f15 := hide hI.1
        replace hI := hI.2
        have f16 := hide hI.1
        replace hI := hI.2
        have f17 := hide hI.1
        replace hI := hI.2
        have f18 := hide hI.1
        replace hI := hI.2
        have f19 := hide hI.1
        replace hI := hI.2
        have f20 := hide hI
        clear hI
        obtain rfl := f7.out (hD.on 7 (by kernel_rfl))
        obtain rfl := f10.out (hD.on 10 (by kernel_rfl))
        try simp only [puts, Act.put, List.setIfInBounds_toArray, List.set_cons_zero, List.set_cons_succ]
        try go_simp
        exact hK.out _ _ _ (by simp only [puts, Act.put, List.setIfInBounds_toArray, List.set_cons_zero, List.set_cons_succ] <;> rfl) ⟨hG, (fun h => f0.out h), (fun h => f1.out h), (fun h => f2.out h), (fun h => f3.out h), (fun h => f4.out h), (fun h => f5.out h), (fun h => f6.out h), (fun h => f7.out h), (fun h => f8.out h), (fun h => f9.out h), (fun h => f10.out h), (fun _ => rfl), (fun h => f12.out h), (fun h => f13.out h), (fun h => f14.out h), (fun h => f15.out h), (fun h => f16.out h), (fun h => f17.out h), (fun h => f18.out h), (fun h => f19.out h), (fun h => f20.out h)⟩
       ·intro L vs W hlen hL hD hI K hK
        obtain ⟨x0, x1, x2, x3, x4, x5, x6, x7, x8, x9, x10, x11, x12, x13, x14, x15, x16, x17, x18, x19, x20, rfl⟩ := len21 hlen
        have hG := hI.1
        replace hI := hI.2
        have f0 := hide hI.1
        replace hI := hI.2
        have f1 := hide hI.1
        replace hI := hI.2
        have f2 := hide hI.1
        replace hI := hI.2
        have f3 := hide hI.1
        replace hI := hI.2
        have f4 := hide hI.1
        replace hI := hI.2
        have f5 := hide hI.1
        replace hI := hI.2
        have f6 := hide hI.1
        replace hI := hI.2
        have f7 := hide hI.1
        replace hI := hI.2
        have f8 := hide hI.1
        replace hI := hI.2
        have f9 := hide hI.1
        replace hI := hI.2
        have f10 := hide hI.1
        replace hI := hI.2
        have f11 := hide hI.1
        replace hI := hI.2
        have f12 := hide hI.1
        replace hI := hI.2
        have f13 := hide hI.1
        replace hI := hI.2
        have f14 := hide hI.1
        replace hI := hI.2
        have f15 := hide hI.1
        replace hI := hI.2
        have f16 := hide hI.1
        replace hI := hI.2
        have f17 := hide hI.1
        replace hI := hI.2
        have f18 := hide hI.1
        replace hI := hI.2
        have f19 := hide hI.1
        replace hI := hI.2
        have f20 := hide hI
        clear hI
        obtain rfl := f7.out (hD.on 7 (by kernel_rfl))
        obtain rfl := f11.out (hD.on 11 (by kernel_rfl))
        try simp only [puts, Act.put, List.setIfInBounds_toArray, List.set_cons_zero, List.set_cons_succ]
        try go_simp
        exact hK.out _ _ _ (by simp only [puts, Act.put, List.setIfInBounds_toArray, List.set_cons_zero, List.set_cons_succ] <;> rfl) ⟨hG, (fun h => f0.out h), (fun h => f1.out h), (fun h => f2.out h), (fun h => f3.out h), (fun h => f4.out h), (fun h => f5.out h), (fun h => f6.out h), (fun h => f7.out h), (fun h => f8.out h), (fun h => f9.out h), (fun h => f10.out h), (fun h => f11.out h), (fun _ => rfl), (fun h => f13.out h), (fun h => f14.out h), (fun h => f15.out h), (fun h => f16.out h), (fun h => f17.out h), (fun h => f18.out h), (fun h => f19.out h), (fun h => f20.out h)⟩
       ·intro L vs W hlen hL hD hI K hK
        obtain ⟨x0, x1, x2, x3, x4, x5, x6, x7, x8, x9, x10, x11, x12, x13, x14, x15, x16, x17, x18, x19, x20, rfl⟩ := len21 hlen
        have hG := hI.1
        replace hI := hI.2
        have f0 := hide hI.1
        replace hI := hI.2
        have f1 := hide hI.1
        replace hI := hI.2
        have f2 := hide hI.1
        replace hI := hI.2
        have f3 := hide hI.1
        replace hI := hI.2
        have f4 := hide hI.1
        replace hI := hI.2
        have f5 := hide hI.1
        replace hI := hI.2
        have f6 := hide hI.1
        replace hI := hI.2
        have f7 := hide hI.1
        replace hI := hI.2
        have f8 := hide hI.1
        replace hI := hI.2
        have f9 := hide hI.1
        replace hI := hI.2
        have f10 := hide hI.1
        replace hI := hI.2
        have f11 := hide hI.1
        replace hI := hI.2
        have f12 := hide hI.1
        replace hI := hI.2
        have f13 := hide hI.1
        replace hI := hI.2
        have f14 := hide hI.1
        replace hI := hI.2
        have f15 := hide hI.1
        replace hI := hI.2
        have f16 := hide hI.1
        replace hI := hI.2
        have f17 := hide hI.1
        replace hI := hI.2
        have f18 := hide hI.1
        replace hI := hI.2
        have f19 := hide hI.1
        replace hI := hI.2
        have f20 := hide hI
        clear hI
        obtain rfl := f12.out (hD.on 12 (by kernel_rfl))
        try simp only [puts, Act.put, List.setIfInBounds_toArray, List.set_cons_zero, List.set_cons_succ]
        try go_simp
        exact hK.out _ _ _ (by simp only [puts, Act.put, List.setIfInBounds_toArray, List.set_cons_zero, List.set_cons_succ] <;> rfl) ⟨hG, (fun h => f0.out h), (fun h => f1.out h), (fun h => f2.out h), (fun h => f3.out h), (fun h => f4.out h), (fun h => f5.out h), (fun h => f6.out h), (fun h => f7.out h), (fun h => f8.out h), (fun h => f9.out h), (fun h => f10.out h), (fun h => f11.out h), (fun h => f12.out h), (fun _ => rfl), (fun h => f14.out h), (fun h => f15.out h), (fun h => f16.out h), (fun h => f17.out h), (fun h => f18.out h), (fun h => f19.out h), (fun h => f20.out h)⟩
       ·intro L vs W hlen hL hD hI K hK
        obtain ⟨x0, x1, x2, x3, x4, x5, x6, x7, x8, x9, x10, x11, x12, x13, x14, x15, x16, x17, x18, x19, x20, rfl⟩ := len21 hlen
        have hG := hI.1
        replace hI := hI.2
        have f0 := hide hI.1
        replace hI := hI.2
        have f1 := hide hI.1
        replace hI := hI.2
        have f2 := hide hI.1
        replace hI := hI.2
        have f3 := hide hI.1
        replace hI := hI.2
        have f4 := hide hI.1
        replace hI := hI.2
        have f5 := hide hI.1
        replace hI := hI.2
        have f6 := hide hI.1
        replace hI := hI.2
        have f7 := hide hI.1
        replace hI := hI.2
        have f8 := hide hI.1
        replace hI := hI.2
        have f9 := hide hI.1
        replace hI := hI.2
        have f10 := hide hI.1
        replace hI := hI.2
        have f11 := hide hI.1
        replace hI := hI.2
        have f12 := hide hI.1
        replace hI := hI.2
        have f13 := hide hI.1
        replace hI := hI.2
        have f14 := hide hI.1
        replace hI := hI.2
        have f15 := hide hI.1
        replace hI := hI.2
        have f16 := hide hI.1
        replace hI := hI.2
        have f17 := hide hI.1
        replace hI := hI.2
        have f18 := hide hI.1
        replace hI := hI.2
        have f19 := hide hI.1
        replace hI := hI.2
        have f20 := hide hI
        clear hI
        obtain rfl := f13.out (hD.on 13 (by kernel_rfl))
        try simp only [puts, Act.put, List.setIfInBounds_toArray, List.set_cons_zero, List.set_cons_succ]
        obtain ⟨fq, hq⟩ := hG.1
        have z0 := hq.bF.cell 0 rfl
        unfold extV at z0
        go_simp
        exact hK.out _ _ _ (by simp only [puts, Act.put, List.setIfInBounds_toArray, List.set_cons_zero, List.set_cons_succ] <;> rfl) ⟨hG, (fun h => f0.out h), (fun h => f1.out h), (fun h => f2.out h), (fun h => f3.out h), (fun h => f4.out h), (fun h => f5.out h), (fun h => f6.out h), (fun h => f7.out h), (fun h => f8.out h), (fun h => f9.out h), (fun h => f10.out h), (fun h => f11.out h), (fun h => f12.out h), (fun h => f13.out h), (fun _ => rfl), (fun h => f15.out h), (fun h => f16.out h), (fun h => f17.out h), (fun h => f18.out h), (fun h => f19.out h), (fun h => f20.out h)⟩
       ·intro L vs W hlen hL hD hI K hK
        obtain ⟨x0, x1, x2, x3, x4, x5, x6, x7, x8, x9, x10, x11, x12, x13, x14, x15, x16, x17, x18, x19, x20, rfl⟩ := len21 hlen
        have hG := hI.1
        replace hI := hI.2
        have f0 := hide hI.1
        replace hI := hI.2
        have f1 := hide hI.1
        replace hI := hI.2
        have f2 := hide hI.1
        replace hI := hI.2
        have f3 := hide hI.1
        replace hI := hI.2
        have f4 := hide hI.1
        replace hI := hI.2
        have f5 := hide hI.1
        replace hI := hI.2
        have f6 := hide hI.1
        replace hI := hI.2
        have f7 := hide hI.1
        replace hI := hI.2
        have f8 := hide hI.1
        replace hI := hI.2
        have f9 := hide hI.1
        replace hI := hI.2
        have f10 := hide hI.1
        replace hI := hI.2
        have f11 := hide hI.1
        replace hI := hI.2
        have f12 := hide hI.1
        replace hI := hI.2
        have f13 := hide hI.1
        replace hI := hI.2
        have f14 := hide hI.1
        replace hI := hI.2
        have f15 := hide hI.1
        replace hI := hI.2
        have f16 := hide hI.1
        replace hI := hI.2
        have f17 := hide hI.1
        replace hI := hI.2
        have f18 := hide hI.1
        replace hI := hI.2
        have f19 := hide hI.1
        replace hI := hI.2
        have f20 := hide hI
        clear hI
        obtain rfl := f13.out (hD.on 13 (by kernel_rfl))
        try simp only [puts, Act.put, List.setIfInBounds_toArray, List.set_cons_zero, List.set_cons_succ]
        try go_simp
        exact hK.out _ _ _ (by simp only [puts, Act.put, List.setIfInBounds_toArray, List.set_cons_zero, List.set_cons_succ] <;> rfl) ⟨hG, (fun h => f0.out h), (fun h => f1.out h), (fun h => f2.out h), (fun h => f3.out h), (fun h => f4.out h), (fun h => f5.out h), (fun h => f6.out h), (fun h => f7.out h), (fun h => f8.out h), (fun h => f9.out h), (fun h => f10.out h), (fun h => f11.out h), (fun h => f12.out h), (fun h => f13.out h), (fun h => f14.out h), (fun _ => rfl), (fun h => f16.out h), (fun h => f17.out h), (fun h => f18.out h), (fun h => f19.out h), (fun h => f20.out h)⟩
       ·intro L vs W hlen hL hD hI K hK
        obtain ⟨x0, x1, x2, x3, x4, x5, x6, x7, x8, x9, x10, x11, x12, x13, x14, x15, x16, x17, x18, x19, x20, rfl⟩ := len21 hlen
        have hG := hI.1
        replace hI := hI.2
        have f0 := hide hI.1
        replace hI := hI.2
        have f1 := hide hI.1
        replace hI := hI.2
        have f2 := hide hI.1
        replace hI := hI.2
        have f3 := hide hI.1
        replace hI := hI.2
        have f4 := hide hI.1
        replace hI := hI.2
        have f5 := hide hI.1
        replace hI := hI.2
        have f6 := hide hI.1
        replace hI := hI.2
        have f7 := hide hI.1
        replace hI := hI.2
        have f8 := hide hI.1
        replace hI := hI.2
        have f9 := hide hI.1
        replace hI := hI.2
        have f10 := hide hI.1
        replace hI := hI.2
        have f11 := hide hI.1
        replace hI := hI.2
        have f12 := hide hI.1
        replace hI := hI.2
        have f13 := hide hI.1
        replace hI := hI.2
        have f14 := hide hI.1
        replace hI := hI.2
        have f15 := hide hI.1
        replace hI := hI.2
        have f16 := hide hI.1
        replace hI := hI.2
        have f17 := hide hI.1
        replace hI := hI.2
        have f18 := hide hI.1
        replace hI := hI.2
        have f19 := hide hI.1
        replace hI := hI.2
        have f20 := hide hI
        clear hI
        obtain rfl := f13.out (hD.on 13 (by kernel_rfl))
        try simp only [puts, Act.put, List.setIfInBounds_toArray, List.set_cons_zero, List.set_cons_succ]
        try go_simp
        exact hK.out _ _ _ (by simp only [puts, Act.put, List.setIfInBounds_toArray, List.set_cons_zero, List.set_cons_succ] <;> rfl) ⟨hG, (fun h => f0.out h), (fun h => f1.out h), (fun h => f2.out h), (fun h => f3.out h), (fun h => f4.out h), (fun h => f5.out h), (fun h => f6.out h), (fun h => f7.out h), (fun h => f8.out h), (fun h => f9.out h), (fun h => f10.out h), (fun h => f11.out h), (fun h => f12.out h), (fun h => f13.out h), (fun h => f14.out h), (fun h => f15.out h), (fun _ => rfl), (fun h => f17.out h), (fun h => f18.out h), (fun h => f19.out h), (fun h => f20.out h)⟩
       ·intro L vs W hlen hL hD hI K hK
        obtain ⟨x0, x1, x2, x3, x4, x5, x6, x7, x8, x9, x10, x11, x12, x13, x14, x15, x16, x17, x18, x19, x20, rfl⟩ := len21 hlen
        have hG := hI.1
        replace hI := hI.2
        have f0 := hide hI.1
        replace hI := hI.2
        have f1 := hide hI.1
        replace hI := hI.2
        have f2 := hide hI.1
        replace hI := hI.2
        have f3 := hide hI.1
        replace hI := hI.2
        have f4 := hide hI.1
        replace hI := hI.2
        have f5 := hide hI.1
        replace hI := hI.2
        have f6 := hide hI.1
        replace hI := hI.2
        have f7 := hide hI.1
        replace hI := hI.2
        have f8 := hide hI.1
        replace hI := hI.2
        have f9 := hide hI.1
        replace hI := hI.2
        have f10 := hide hI.1
        replace hI := hI.2
        have f11 := hide hI.1
        replace hI := hI.2
        have f12 := hide hI.1
        replace hI := hI.2
        have f13 := hide hI.1
        replace hI := hI.2
        have f14 := hide hI.1
        replace hI := hI.2
        have f15 := hide hI.1
        replace hI := hI.2
        have f16 := hide hI.1
        replace hI := hI.2
        have f17 := hide hI.1
        replace hI := hI.2
        have f18 := hide hI.1
        replace hI := hI.2
        have f19 := hide hI.1
        replace hI := hI.2
        have f20 := hide hI
        clear hI
        obtain rfl := f13.out (hD.on 13 (by kernel_rfl))
        obtain rfl := f16.out (hD.on 16 (by kernel_rfl))
        try simp only [puts, Act.put, List.setIfInBounds_toArray, List.set_cons_zero, List.set_cons_succ]
        try go_simp
        generalize hW' : World.alloc W _ = W'
        have hb : Below W.heap.size W W' := by rw [← hW']; exact bal W _
        exact hK.out _ _ _ (by simp only [puts, Act.put, List.setIfInBounds_toArray, List.set_cons_zero, List.set_cons_succ] <;> rfl) ⟨⟨hG.1.imp fun _ h => h.later hb, own_later hG.2.1 hb, hG.2.2.trans (Eff.of_below hb _)⟩, (fun h => f0.out h), (fun h => f1.out h), (fun h => f2.out h), (fun h => f3.out h), (fun h => f4.out h), (fun h => f5.out h), (fun h => f6.out h), (fun h => f7.out h), (fun h => f8.out h), (fun h => f9.out h), (fun h => f10.out h), (fun h => f11.out h), (fun h => f12.out h), (fun h => f13.out h), (fun h => f14.out h), (fun h => f15.out h), (fun h => f16.out h), (fun _ => fun _ => ⟨W.heap.size, rfl, by rw [← hW']; exact Blk.newA W _ rfl⟩), (fun h => (fun h => absurd (h.1.symm.trans hL) (by decide)) (f18.out h)), (fun h => (fun h => absurd (h.1.1.symm.trans hL) (by decide)) (f19.out h)), (fun h => (fun h => absurd (h.1.2.1.symm.trans hL) (by decide)) (f20.out h))⟩
       ·intro L vs W hlen hL hD hI K hK
        obtain ⟨x0, x1, x2, x3, x4, x5, x6, x7, x8, x9, x10, x11, x12, x13, x14, x15, x16, x17, x18, x19, x20, rfl⟩ := len21 hlen
        have hG := hI.1
        replace hI := hI.2
        have f0 := hide hI.1
        replace hI := hI.2
        have f1 := hide hI.1
        replace hI := hI.2
        have f2 := hide hI.1
        replace hI := hI.2
        have f3 := hide hI.1
        replace hI := hI.2
        have f4 := hide hI.1
        replace hI := hI.2
        have f5 := hide hI.1
        replace hI := hI.2
        have f6 := hide hI.1
        replace hI := hI.2
        have f7 := hide hI.1
        replace hI := hI.2
        have f8 := hide hI.1
        replace hI := hI.2
        have f9 := hide hI.1
        replace hI := hI.2
        have f10 := hide hI.1
        replace hI := hI.2
        have f11 := hide hI.1
        replace hI := hI.2
        have f12 := hide hI.1
        replace hI := hI.2
        have f13 := hide hI.1
        replace hI := hI.2
        have f14 := hide hI.1
        replace hI := hI.2
        have f15 := hide hI.1
        replace hI := hI.2
        have f16 := hide hI.1
        replace hI := hI.2
        have f17 := hide hI.1
        replace hI := hI.2
        have f18 := hide hI.1
        replace hI := hI.2
        have f19 := hide hI.1
        replace hI := hI.2
        have f20 := hide hI
        clear hI
        obtain rfl := f13.out (hD.on 13 (by kernel_rfl))
        obtain rfl := f15.out (hD.on 15 (by kernel_rfl))
        have g17 := f17.out (hD.on 17 (by kernel_rfl))
        try simp only [puts, Act.put, List.setIfInBounds_toArray, List.set_cons_zero, List.set_cons_succ]
        obtain ⟨b0, rfl, hB0⟩ := g17 hL
        refine step_path (by kernel_rfl) _ _ rfl B g (m + 1) c b0 (natsO l) x HLN.out rfl hG.2.1 rfl hB0 (by omega) (Nat.le_trans HSZ.out hG.2.2.size) ?_
        intro g' c' W' hO1 hO2 hE1 hd1
        have hb : True := trivial
        exact hK.out _ _ _ (by simp only [puts, Act.put, List.setIfInBounds_toArray, List.set_cons_zero, List.set_cons_succ] <;> rfl) ⟨⟨hG.1.imp fun _ h => h.eff hG.2.1 (by rw [HLN.out]) hLB hE1, hO2, hG.2.2.trans (hE1.mono fun _ _ e => .inl e)⟩, (fun h => f0.out h), (fun h => f1.out h), (fun h => f2.out h), (fun h => f3.out h), (fun h => f4.out h), (fun h => f5.out h), (fun h => f6.out h), (fun h => f7.out h), (fun h => f8.out h), (fun h => f9.out h), (fun h => f10.out h), (fun h => f11.out h), (fun h => f12.out h), (fun h => f13.out h), (fun h => f14.out h), (fun h => f15.out h), (fun h => f16.out h), (fun h => (fun _ h8 => absurd h8 (by simp)) (f17.out h)), (fun _ => ⟨hD.on 17 (by kernel_rfl), fun _ => ⟨g', c', rfl, hO1, hd1.imp id fun h => Nat.le_trans hG.2.2.size h⟩⟩), (fun h => (fun h => absurd (h.1.2.symm.trans hL) (by decide)) (f19.out h)), (fun h => (fun h => absurd (h.1.2.2.symm.trans hL) (by decide)) (f20.out h))⟩
       ·intro L vs W hlen hL hD hI K hK
        obtain ⟨x0, x1, x2, x3, x4, x5, x6, x7, x8, x9, x10, x11, x12, x13, x14, x15, x16, x17, x18, x19, x20, rfl⟩ := len21 hlen
        have hG := hI.1
        replace hI := hI.2
        have f0 := hide hI.1
        replace hI := hI.2
        have f1 := hide hI.1
        replace hI := hI.2
        have f2 := hide hI.1
        replace hI := hI.2
        have f3 := hide hI.1
        replace hI := hI.2
        have f4 := hide hI.1
        replace hI := hI.2
        have f5 := hide hI.1
        replace hI := hI.2
        have f6 := hide hI.1
        replace hI := hI.2
        have f7 := hide hI.1
        replace hI := hI.2
        have f8 := hide hI.1
        replace hI := hI.2
        have f9 := hide hI.1
        replace hI := hI.2
        have f10 := hide hI.1
        replace hI := hI.2
        have f11 := hide hI.1
        replace hI := hI.2
        have f12 := hide hI.1
        replace hI := hI.2
        have f13 := hide hI.1
        replace hI := hI.2
        have f14 := hide hI.1
        replace hI := hI.2
        have f15 := hide hI.1
        replace hI := hI.2
        have f16 := hide hI.1
        replace hI := hI.2
        have f17 := hide hI.1
        replace hI := hI.2
        have f18 := hide hI.1
        replace hI := hI.2
        have f19 := hide hI.1
        replace hI := hI.2
        have f20 := hide hI
        clear hI
        obtain rfl := f13.out (hD.on 13 (by kernel_rfl))
        obtain rfl := f14.out (hD.on 14 (by kernel_rfl))
        have g18 := f18.out (hD.on 18 (by kernel_rfl))
        try simp only [puts, Act.put, List.setIfInBounds_toArray, List.set_cons_zero, List.set_cons_succ]
        obtain ⟨h17, h18⟩ := g18
        obtain ⟨g', c', rfl, hO', hd'⟩ := h18 hL
        obtain ⟨fq, hq⟩ := hG.1
        have HC1 := hide (HCX.out g' c' fq W (Nat.le_trans HSZ.out hG.2.2.size) hO' hq)
        go_simp
        refine HC1.out.mono ?_
        rintro e W' ⟨fv', rfl, hG', hO2, hE', hd⟩
        have hbk := ext_back HLN.out hFB HO.out hG.2.2 hG.2.1 hO2 hE' hd'
        have hb : True := trivial
        try go_simp
        exact hK.out _ _ _ (by simp only [puts, Act.put, List.setIfInBounds_toArray, List.set_cons_zero, List.set_cons_succ] <;> rfl) ⟨⟨⟨fv', hG'⟩, hbk.1, hbk.2⟩, (fun h => f0.out h), (fun h => f1.out h), (fun h => f2.out h), (fun h => f3.out h), (fun h => f4.out h), (fun h => f5.out h), (fun h => f6.out h), (fun h => f7.out h), (fun h => f8.out h), (fun h => f9.out h), (fun h => f10.out h), (fun h => f11.out h), (fun h => f12.out h), (fun h => f13.out h), (fun h => f14.out h), (fun h => f15.out h), (fun h => f16.out h), (fun h => (fun _ h8 => absurd ((hD.on 18 (by kernel_rfl)).symm.trans h8) (by decide)) (f17.out h)), (fun h => (fun h => ⟨h.1, fun h19 => absurd h19 (by simp)⟩) (f18.out h)), (fun _ => ⟨⟨h17, hD.on 18 (by kernel_rfl)⟩, rfl, fv', hG', hd⟩), (fun h => (fun h => absurd (h.1.1.symm.trans hL) (by decide)) (f20.out h))⟩
       ·intro L vs W hlen hL hD hI K hK
        obtain ⟨x0, x1, x2, x3, x4, x5, x6, x7, x8, x9, x10, x11, x12, x13, x14, x15, x16, x17, x18, x19, x20, rfl⟩ := len21 hlen
        have hG := hI.1
        replace hI := hI.2
        have f0 := hide hI.1
        replace hI := hI.2
        have f1 := hide hI.1
        replace hI := hI.2
        have f2 := hide hI.1
        replace hI := hI.2
        have f3 := hide hI.1
        replace hI := hI.2
        have f4 := hide hI.1
        replace hI := hI.2
        have f5 := hide hI.1
        replace hI := hI.2
        have f6 := hide hI.1
        replace hI := hI.2
        have f7 := hide hI.1
        replace hI := hI.2
        have f8 := hide hI.1
        replace hI := hI.2
        have f9 := hide hI.1
        replace hI := hI.2
        have f10 := hide hI.1
        replace hI := hI.2
        have f11 := hide hI.1
        replace hI := hI.2
        have f12 := hide hI.1
        replace hI := hI.2
        have f13 := hide hI.1
        replace hI := hI.2
        have f14 := hide hI.1
        replace hI := hI.2
        have f15 := hide hI.1
        replace hI := hI.2
        have f16 := hide hI.1
        replace hI := hI.2
        have f17 := hide hI.1
        replace hI := hI.2
        have f18 := hide hI.1
        replace hI := hI.2
        have f19 := hide hI.1
        replace hI := hI.2
        have f20 := hide hI
        clear hI
        obtain rfl := f13.out (hD.on 13 (by kernel_rfl))
        have g19 := f19.out (hD.on 19 (by kernel_rfl))
        try simp only [puts, Act.put, List.setIfInBounds_toArray, List.set_cons_zero, List.set_cons_succ]
        obtain ⟨h1, rfl, h2⟩ := g19
        go_simp
        exact hK.out _ _ _ (by simp only [puts, Act.put, List.setIfInBounds_toArray, List.set_cons_zero, List.set_cons_succ] <;> rfl) ⟨hG, (fun h => f0.out h), (fun h => f1.out h), (fun h => f2.out h), (fun h => f3.out h), (fun h => f4.out h), (fun h => f5.out h), (fun h => f6.out h), (fun h => f7.out h), (fun h => f8.out h), (fun h => f9.out h), (fun h => f10.out h), (fun h => f11.out h), (fun h => f12.out h), (fun h => f13.out h), (fun h => f14.out h), (fun h => f15.out h), (fun h => f16.out h), (fun h => f17.out h), (fun h => f18.out h), (fun h => f19.out h), (fun _ => ⟨⟨hD.on 19 (by kernel_rfl), h1⟩, rfl, h2⟩)⟩
      intro L vs W hlen hall hI
      obtain ⟨x0, x1, x2, x3, x4, x5, x6, x7, x8, x9, x10, x11, x12, x13, x14, x15, x16, x17, x18, x19, x20, rfl⟩ := len21 hlen
      have hG := hI.1
      replace hI := hI.2
      have f0 := hide hI.1
      replace hI := hI.2
      have f1 := hide hI.1
      replace hI := hI.2
      have f2 := hide hI.1
      replace hI := hI.2
      have f3 := hide hI.1
      replace hI := hI.2
      have f4 := hide hI.1
      replace hI := hI.2
      have f5 := hide hI.1
      replace hI := hI.2
      have f6 := hide hI.1
      replace hI := hI.2
      have f7 := hide hI.1
      replace hI := hI.2
      have f8 := hide hI.1
      replace hI := hI.2
      have f9 := hide hI.1
      replace hI := hI.2
      have f10 := hide hI.1
      replace hI := hI.2
      have f11 := hide hI.1
      replace hI := hI.2
      have f12 := hide hI.1
      replace hI := hI.2
      have f13 := hide hI.1
      replace hI := hI.2
      have f14 := hide hI.1
      replace hI := hI.2
      have f15 := hide hI.1
      replace hI := hI.2
      have f16 := hide hI.1
      replace hI := hI.2
      have f17 := hide hI.1
      replace hI := hI.2
      have f18 := hide hI.1
      replace hI := hI.2
      have f19 := hide hI.1
      replace hI := hI.2
      have f20 := hide hI
      clear hI
      obtain rfl := f0.out (hall 0 (by decide))
      obtain rfl := f1.out (hall 1 (by decide))
      obtain rfl := f2.out (hall 2 (by decide))
      obtain rfl := f3.out (hall 3 (by decide))
      obtain rfl := f4.out (hall 4 (by decide))
      obtain rfl := f5.out (hall 5 (by decide))
      obtain rfl := f6.out (hall 6 (by decide))
      obtain rfl := f7.out (hall 7 (by decide))
      obtain rfl := f8.out (hall 8 (by decide))
      obtain rfl := f9.out (hall 9 (by decide))
      obtain rfl := f10.out (hall 10 (by decide))
      obtain rfl := f11.out (hall 11 (by decide))
      obtain rfl := f12.out (hall 12 (by decide))
      obtain rfl := f13.out (hall 13 (by decide))
      obtain rfl := f14.out (hall 14 (by decide))
      obtain rfl := f15.out (hall 15 (by decide))
      obtain rfl := f16.out (hall 16 (by decide))
      have g17 := f17.out (hall 17 (by decide))
      have g18 := f18.out (hall 18 (by decide))
      have g19 := f19.out (hall 19 (by decide))
      have g20 := f20.out (hall 20 (by decide))
      have hal := hide hall
      clear hall f0 f1 f2 f3 f4 f5 f6 f7 f8 f9 f10 f11 f12 f13 f14 f15 f16 f17 f18 f19 f20
      try simp only [puts, Act.put, List.setIfInBounds_toArray, List.set_cons_zero, List.set_cons_succ]
      obtain ⟨-, rfl, fv', hG', hd⟩ := g20
      have HG1 := hide hG'
      have HO1 := hide hG.2.1
      have HE1 := hide (HE.out.trans hG.2.2)
      have HD1 := hide hd
      clear hG hG' hd g17 g18 g19 hal
      have HHX1 : Hid (H x = extC n A len f (l ++ [x])) := hide (by rw [HHX.out]; rfl)
      cases hres : extC n A len f (l ++ [x]) with
      | none =>
       have HN1 := hide (HNX.out (by rw [HHX1.out, hres]))
       clear hres
       go_wp2_with fail
       go_roundw
       case rel => exact ⟨x + 1, _, by have := HK.out; omega, by go_num, HN1, HG1.out, HO1.out, HE1.out⟩
       case measure => have := HK.out; simp [intOf]; omega
      | some d =>
       have HF : Hid (extC n A len (f + 1) l = some d) := hide (HHT.out x d HN.out HK.out (by rw [HHX1.out, hres]))
       have HD2 := hide (HD1.out d hres)
       clear hres
       go_wp2_with fail
       go_ret
       exact ⟨fv', by rw [HF.out]; rfl, HG1.out, by rw [HML.out]; exact HO1.out, HE1.out, fun d' hd' => by rw [HF.out] at hd'; cases hd'; exact HD2.out⟩
     ·rw [hin] at HHX
      have HN1 := hide (HNX.out (by rw [HHX.out]; rfl))
      have hci := contains_int (natsO l) x _ wr.drew (own_later hO (Below.refl _ _).drew).ints
      rw [HM.out x, hin] at hci
      have HCI := hide hci
      have HG := hide hG
      have HO := hide hO
      have HE := hide hE
      clear hA hin hci hG hO hE
      go_wp2_with fail
      refine wp_region_still_tail 20 (by kernel_rfl) (by kernel_rfl) ?_
      simp only [List.take_succ_cons, List.take_zero, List.drop_succ_cons, List.drop_zero]
      repeat (with_reducible refine wpStill_step (fun K hK => ?_) ; go_simp ; with_reducible refine hK _ ?_ ; clear hK K)
      with_reducible refine wpStill_step (fun K hK => ?_)
      go_simp
      refine ⟨_, HCI.out, ?_⟩
      with_reducible refine hK _ ?_
      clear hK K
      repeat (with_reducible refine wpStill_step (fun K hK => ?_) ; go_simp ; with_reducible refine hK _ ?_ ; clear hK K)
      refine wpStill_nil ?_
      change wpList _ _ _ _ _ wr.drew
      have HG1 := hide (HG.out.later (Below.refl _ _).drew)
      have HO1 := hide (own_later HO.out (Below.refl _ _).drew)
      have HE1 := hide (HE.out.trans (Eff.drew wr _))
      go_wp2_with fail
      go_roundw
      case rel => exact ⟨x + 1, _, by have := HK.out; omega, by go_num, HN1, HG1.out, HO1.out, HE1.out⟩
      case measure => have := HK.out; simp [intOf]; omega
   ·obtain rfl : x = n := by omega
    have HF : Hid (extC x A len (f + 1) l = none) := hide (by rw [HE0.out]; exact first_none.2 HN.out)
    have HG := hide hG
    have HO := hide hO
    have HE := hide hE
    clear hG hO hE
    go_wp2_with fail
    go_ret
    exact ⟨fw, by rw [HF.out]; rfl, HG.out, by rw [HML.out]; exact HO.out, HE.out, fun d hd => by rw [HF.out] at hd; cases hd⟩
end Go.Proofs.YtnidcoinfmcffaaDoor
