/- The walk of the closure of Cover (chapter 15). Conditions: how the order lies in memory. -/
import Derived.Test.YtnidcoinfmcffaaDoorOsU
import Derived.Test.YtnidcoinfmcffaaDoorOpA
namespace Go.Proofs.YtnidcoinfmcffaaDoor
open Go.RowKit
attribute [local go_sem] Oper.semAt_some
theorem blk_ne {w : World} {b c : Nat} {vs us : List Value} {t t' : TypeId} (h1 : Blk w b vs t) (h2 : Blk w c us t') (ht : t ≠ t') : b ≠ c := by
 rintro rfl
 have := (show w.heap[b]? = _ from h1).symm.trans (show w.heap[b]? = _ from h2)
 simp at this; exact ht this.2
abbrev lasC (f : Nat → Nat) : List Value := [.int .i64 (f 0 : Nat), .int .i64 (f 1 : Nat), .int .i64 (f 2 : Nat), .int .i64 (f 3 : Nat), .int .i64 (f 4 : Nat), .int .i64 (f 5 : Nat), .int .i64 (f 6 : Nat), .int .i64 (f 7 : Nat)]
theorem lasC_get (f : Nat → Nat) : ∀ b, b < 8 → (lasC f)[b]? = some (.int .i64 (f b : Nat))
 | 0, _ => rfl
 | 1, _ => rfl
 | 2, _ => rfl
 | 3, _ => rfl
 | 4, _ => rfl
 | 5, _ => rfl
 | 6, _ => rfl
 | 7, _ => rfl
 | n + 8, h => by omega
theorem lasC_set (f : Nat → Nat) (v : Nat) : ∀ b, b < 8 → (lasC f).set b (.int .i64 (v : Nat)) = lasC (fun x => if x = b then v else f x)
 | 0, _ => rfl
 | 1, _ => rfl
 | 2, _ => rfl
 | 3, _ => rfl
 | 4, _ => rfl
 | 5, _ => rfl
 | 6, _ => rfl
 | 7, _ => rfl
 | n + 8, h => by omega
/-- the function value 'follow' -/
def folV (O T Sn La Fb : Nat) : Value := .func (.func 65) #[] #[.pointer (some ⟨O, 0, none⟩), .pointer (some ⟨T, 0, none⟩), .pointer (some ⟨Sn, 0, none⟩), .pointer (some ⟨La, 0, none⟩), .pointer (some ⟨Fb, 0, none⟩)]
/-- what stands while things are matched -/
structure FoG (n : Nat) (R : RelO) (O T Sn La Fb : Nat) (pv : Value) (s : KuhnO) (W : World) : Prop where
 bO : Blk W O [.int .i64 n, pv] 25
 bT : Blk W T (tabC R) 65
 bS : Blk W Sn [.int .i64 ((bitsO s.seen : Nat) : Int)] 3
 bL : Blk W La (lasC s.last) 53
 bF : Blk W Fb [folV O T Sn La Fb] 80
section
variable {n : Nat} {R : RelO} {O T Sn La Fb : Nat} {pv : Value} {s : KuhnO} {W : World}
theorem FoG.later {W' : World} (h : FoG n R O T Sn La Fb pv s W) (hb : Below W.heap.size W W') : FoG n R O T Sn La Fb pv s W' :=
 ⟨h.bO.later hb, h.bT.later hb, h.bS.later hb, h.bL.later hb, h.bF.later hb⟩
theorem FoG.see (h : FoG n R O T Sn La Fb pv s W) {b : Nat} (hb : b < 8) : FoG n R O T Sn La Fb pv (seeO s b) (W.setCell ⟨Sn, 0, none⟩ (.int .i64 ((bitsO s.seen ||| 2 ^ b : Nat) : Int))) := by
 refine ⟨h.bO.other (blk_ne h.bO h.bS (by decide)) _ _, h.bT.other (blk_ne h.bT h.bS (by decide)) _ _, ?_, h.bL.other (blk_ne h.bL h.bS (by decide)) _ _, h.bF.other (blk_ne h.bF h.bS (by decide)) _ _⟩
 have := h.bS.set 0 (.int .i64 ((bitsO s.seen ||| 2 ^ b : Nat) : Int))
 rw [bits_one _ hb] at this ⊢
 exact this
theorem FoG.put (h : FoG n R O T Sn La Fb pv s W) {b v : Nat} (hb : b < 8) : FoG n R O T Sn La Fb pv (putO s b v) (W.setCell ⟨La, b, none⟩ (.int .i64 (v : Nat))) := by
 refine ⟨h.bO.other (blk_ne h.bO h.bL (by decide)) _ _, h.bT.other (blk_ne h.bT h.bL (by decide)) _ _, h.bS.other (blk_ne h.bS h.bL (by decide)) _ _, ?_, h.bF.other (blk_ne h.bF h.bL (by decide)) _ _⟩
 have := h.bL.set b (.int .i64 (v : Nat))
 rw [lasC_set _ _ b hb] at this
 exact this
end
/-- a call of 'follow' -/
def FoQ (n : Nat) (R : RelO) (O T Sn La Fb : Nat) (pv : Value) (r : Bool × KuhnO) (W : World) (e : Ending) (W' : World) : Prop :=
 e = .returned (.bool r.1) ∧ FoG n R O T Sn La Fb pv r.2 W' ∧ Eff (fun k => k = Sn ∨ k = La) W W'
section
variable {n : Nat} {R : RelO} {go : Nat → KuhnO → Bool × KuhnO} {a b : Nat} {s : KuhnO}
theorem drop_range (hb : b < n) : (List.range n).drop b = b :: (List.range n).drop (b + 1) := by
 rw [List.drop_eq_getElem_cons (by simpa using hb), List.getElem_range]
theorem loop_skip (hb : b < n) (h : (!R a b || s.seen b) = true) : loopO R go a ((List.range n).drop b) s = loopO R go a ((List.range n).drop (b + 1)) s := by
 rw [drop_range hb]
 show (if _ then _ else _) = _
 rw [if_pos h]
theorem loop_free (hb : b < n) (h : (!R a b || s.seen b) = false) (h0 : s.last b = 0) : loopO R go a ((List.range n).drop b) s = (true, putO (seeO s b) b (a + 1)) := by
 rw [drop_range hb]
 show (if _ then _ else if _ then _ else _) = _
 rw [if_neg (by rw [h]; decide)]
 exact if_pos h0
theorem loop_go {r : Bool × KuhnO} (hb : b < n) (h : (!R a b || s.seen b) = false) (h0 : s.last b ≠ 0) (hr : go (s.last b - 1) (seeO s b) = r) : loopO R go a ((List.range n).drop b) s = if r.1 = true then (true, putO r.2 b (a + 1)) else loopO R go a ((List.range n).drop (b + 1)) r.2 := by
 rw [drop_range hb]
 show (if _ then _ else if _ then _ else _) = _
 rw [if_neg (by rw [h]; decide)]
 refine (if_neg h0).trans ?_
 show (if (go (s.last b - 1) (seeO s b)).1 = true then (true, putO (go (s.last b - 1) (seeO s b)).2 b (a + 1)) else loopO R go a ((List.range n).drop (b + 1)) (go (s.last b - 1) (seeO s b)).2) = _
 rw [hr]
end
set_option maxRecDepth 100000 in
set_option maxHeartbeats 2000000 in
theorem follow_any {n : Nat} {R : RelO} (hd : ∀ a b, R a b = true → a < n ∧ b < n) (hn : n ≤ 8) (O T Sn La Fb : Nat) (pv : Value) : ∀ (k a : Nat) (s : KuhnO) (W : World), a < n → OkO n R s.last → unseenO n s < k → FoG n R O T Sn La Fb pv s W →
  Calls Tryd.prog 65 #[.int .i64 a, .pointer (some ⟨O, 0, none⟩), .pointer (some ⟨T, 0, none⟩), .pointer (some ⟨Sn, 0, none⟩), .pointer (some ⟨La, 0, none⟩), .pointer (some ⟨Fb, 0, none⟩)] W (FoQ n R O T Sn La Fb pv (followO n R k a s) W) := by
 intro k
 induction k with
 | zero => intro a s W _ _ h; exact absurd h (Nat.not_lt_zero _)
 | succ k ih =>
  intro a s W ha hok hun hG
  have hL0 : loopO R (followO n R k) a ((List.range n).drop 0) s = followO n R (k + 1) a s := rfl
  generalize followO n R (k + 1) a s = res at *
  have HIH := hide ih
  have HSP := hide (follow_spec hd k)
  have HOK0 := hide hok
  have HUN0 := hide (Nat.le_of_lt_succ hun)
  have HG0 := hide hG
  have HL0 := hide hL0
  have HD := hide hd
  have o0 := hG.bO.cell 0 rfl
  have ha8 : a < 8 := by omega
  clear ih hG hok hun hL0 hd
  go_enter Tryd.func65, Tryd.ntmps65
  go_wp2_with fail
  go_loopw [11] (fun i wr => ∃ (b : Nat) (t : KuhnO), b ≤ n ∧ i = .int .i64 b ∧ Hid (loopO R (followO n R k) a ((List.range n).drop b) t = res) ∧ Hid (OkO n R t.last) ∧ Hid (unseenO n t ≤ k) ∧ FoG n R O T Sn La Fb pv t wr ∧ Eff (fun k => k = Sn ∨ k = La) W wr) (fun i _ => n - (intOf i).toNat)
  case atStart => exact ⟨0, s, by omega, rfl, HL0, HOK0, HUN0, HG0.out.later (by first | exact Below.refl _ _ | exact (Below.refl _ _).drew), Eff.of_below (by first | exact Below.refl _ _ | exact (Below.refl _ _).drew) _⟩
  case round =>
   obtain ⟨b, t, hb, rfl, HL, HOK, HUN, hG, hE⟩ := hrel
   by_cases hlt : b < n
   ·have hltI : (b : Int) < n := by omega
    have HK := hide hlt
    have hb8 : b < 8 := by omega
    have hb8I : (b : Int) < 8 := by omega
    have t0 := hG.bT.cell b (tabC_get _ b hb8)
    obtain ⟨S, hS⟩ : ∃ S : Nat, bitsO (fun x => R x b) = S := ⟨_, rfl⟩
    have hS8 : S < 256 := by rw [← hS]; exact bits_lt _
    rw [show setI R b = (S : Int) by show ((bitsO _ : Nat) : Int) = _; rw [hS]] at t0
    have hbt := bit_test0 (k := a) hS8
    rw [← hS, bits_test, decide_eq_true ha8, Bool.true_and, hS] at hbt
    have s0 := hG.bS.cell 0 rfl
    obtain ⟨Z, hZ⟩ : ∃ Z : Nat, bitsO t.seen = Z := ⟨_, rfl⟩
    have hZ8 : Z < 256 := by rw [← hZ]; exact bits_lt _
    rw [hZ] at s0
    have hbz := bit_test (k := b) hZ8
    rw [← hZ, bits_test, decide_eq_true hb8, Bool.true_and, hZ] at hbz
    have HZ := hide hZ
    have HG := hide hG
    have HE := hide hE
    clear hG hE hZ hS
    cases hr : R a b
    ·rw [hr] at hbt
     have HL1 : Hid (loopO R (followO n R k) a ((List.range n).drop (b + 1)) t = res) := hide (by rw [← loop_skip hlt (by rw [hr]; rfl)]; exact HL.out)
     clear hr
     go_wp2_with fail
     go_roundw
     case rel => exact ⟨b + 1, t, by have := HK.out; omega, by go_num, HL1, HOK, HUN, HG.out, HE.out⟩
     case measure => have := HK.out; simp [intOf]; omega
    ·rw [hr] at hbt
     cases hs : t.seen b
     ·rw [hs] at hbz
      have HSK : Hid ((!R a b || t.seen b) = false) := hide (by rw [hr, hs]; rfl)
      have HUS := hide (unseen_see (n := n) hlt hs)
      have HR := hide hr
      have hor := or_pow8 hZ8 hb8
      clear hr hs
      go_wp2_with fail
      refine wp_region_still_tail 4 (by kernel_rfl) (by kernel_rfl) ?_
      simp only [List.take_succ_cons, List.take_zero, List.drop_succ_cons, List.drop_zero]
      repeat (with_reducible refine wpStill_step (fun K hK => ?_) ; go_simp ; with_reducible refine hK _ ?_ ; clear hK K)
      refine wpStill_nil ?_
      change wpList _ _ _ _ _ wr.drew
      have z0 := (HG.out.later ((Below.refl wr.heap.size wr).drew)).bS.cell 0 rfl
      have zf := (HG.out.later ((Below.refl wr.heap.size wr).drew)).bS.frozen 0
      rw [HZ.out] at z0
      have hG3 := (HG.out.see hb8).later (Below.refl _ _).drew
      have hE3 : Eff (fun k => k = Sn ∨ k = La) W (World.drew (World.setCell wr ⟨Sn, 0, none⟩ (.int .i64 ((bitsO t.seen ||| 2 ^ b : Nat) : Int)))) := (HE.out.trans (Eff.mono (Eff.setCell _ _ _ _) (fun _ _ h => .inl h))).trans (Eff.drew _ _)
      rw [HZ.out] at hG3 hE3
      go_wp2_with fail
      generalize World.drew (World.setCell wr _ _) = V3 at *
      have l0 := hG3.bL.cell b (lasC_get _ b hb8)
      have HG3 := hide hG3
      have HE3 := hide hE3
      clear hG3 hE3 z0 zf
      by_cases h0 : t.last b = 0
      ·rw [show (seeO t b).last b = 0 from h0] at l0
       replace l0 : V3.cell? ⟨La, b, none⟩ = some (.int .i64 0) := l0
       have HF : Hid (res = (true, putO (seeO t b) b (a + 1))) := hide (by rw [← HL.out]; exact loop_free HK.out HSK.out h0)
       clear h0
       refine wp_region_still_tail 10 (by kernel_rfl) (by kernel_rfl) ?_
       simp only [List.take_succ_cons, List.take_zero, List.drop_succ_cons, List.drop_zero]
       repeat (with_reducible refine wpStill_step (fun K hK => ?_) ; go_simp ; with_reducible refine hK _ ?_ ; clear hK K)
       refine wpStill_nil ?_
       change wpList _ _ _ _ _ V3.drew
       have hG4 := HG3.out.later (Below.refl _ _).drew
       have hE4 := HE3.out.trans (Eff.drew V3 _)
       go_upto_region 7 with (fail)
       generalize World.drew V3 = V4 at *
       have z0 := hG4.bL.cell b (lasC_get _ b hb8)
       have zf := hG4.bL.frozen b
       have HG5 := hide (hG4.put (v := a + 1) hb8)
       have HE5 := hide (hE4.trans (Eff.mono (Eff.setCell V4 La b (.int .i64 ((a + 1 : Nat) : Int))) (fun _ _ h => .inr h)))
       clear hG4 hE4
       go_wp2_with fail
       go_ret
       rw [HF.out]
       exact ⟨rfl, HG5.out, HE5.out⟩
      ·obtain ⟨c, hc⟩ : ∃ c : Nat, t.last b = c + 1 := ⟨t.last b - 1, by omega⟩
       rw [show (seeO t b).last b = c + 1 from hc] at l0
       have hcn : c < n := by have := (HOK.out b h0).2; rw [hc] at this; exact (HD.out _ _ this).1
       have HC := hide (HIH.out c (seeO t b) V3 hcn HOK.out (Nat.lt_of_lt_of_le HUS.out HUN.out) HG3.out)
       have HQ := hide (HSP.out c (seeO t b) HOK.out (Nat.lt_of_lt_of_le HUS.out HUN.out))
       have f0 := HG3.out.bF.cell 0 rfl
       unfold folV at f0
       have HLG := hide (fun r hr => loop_go (R := R) (go := followO n R k) (a := a) (s := t) (r := r) HK.out HSK.out h0 hr)
       rw [hc, Nat.add_sub_cancel] at HLG
       have hb0 : (((c : Int) + 1) == 0) = false := by simp; omega
       have hb1 : IntKind.i64.wrap ((c : Int) + 1 - 1) = c := by rw [show (c : Int) + 1 - 1 = c by omega]; exact IntWalk.i64_in _ ⟨by omega, by omega⟩
       have hb2 : IntKind.i64.wrap (c : Int) = c := IntWalk.i64_in _ ⟨by omega, by omega⟩
       clear h0 hc
       refine wp_region_still_tail 10 (by kernel_rfl) (by kernel_rfl) ?_
       simp only [List.take_succ_cons, List.take_zero, List.drop_succ_cons, List.drop_zero]
       repeat (with_reducible refine wpStill_step (fun K hK => ?_) ; go_simp ; with_reducible refine hK _ ?_ ; clear hK K)
       refine wpStill_nil ?_
       change wpList _ _ _ _ _ V3.drew
       have HC' := hide (HIH.out c (seeO t b) V3.drew hcn HOK.out (Nat.lt_of_lt_of_le HUS.out HUN.out) (HG3.out.later (Below.refl _ _).drew))
       have HE4 := hide (HE3.out.trans (Eff.drew V3 _))
       clear HC
       go_wp2_with fail
       refine HC'.out.mono ?_
       rintro e V5 ⟨rfl, hG5, hE5⟩
       have HG5 := hide hG5
       have HE5 := hide (HE4.out.trans hE5)
       have HLG1 := hide (HLG.out _ rfl)
       clear hG5 hE5 HLG HC' HE4 l0 f0
       generalize followO n R k c (seeO t b) = r at *
       obtain ⟨r1, r2⟩ := r
       have HB1 := hide (IntWalk.i64_in ((a : Int) + 1) ⟨by omega, by omega⟩)
       cases r1
       ·have HL1 : Hid (loopO R (followO n R k) a ((List.range n).drop (b + 1)) r2 = res) := hide (by rw [← HL.out, HLG1.out]; rfl)
        have HOK1 : Hid (OkO n R r2.last) := hide HQ.out.ok
        have HUN1 : Hid (unseenO n r2 ≤ k) := hide (Nat.le_trans (unseen_mono (s := t) fun x hx => HQ.out.mono x (see_seen.2 (.inl hx))) HUN.out)
        go_wp2_with fail
        go_roundw
        case rel => exact ⟨b + 1, r2, by have := HK.out; omega, by go_num, HL1, HOK1, HUN1, HG5.out, HE5.out⟩
        case measure => have := HK.out; simp [intOf]; omega
       ·have HF : Hid (res = (true, putO r2 b (a + 1))) := hide (by rw [← HL.out, HLG1.out]; rfl)
        have z0 := HG5.out.bL.cell b (lasC_get _ b hb8)
        have zf := HG5.out.bL.frozen b
        have HG6 := hide (HG5.out.put (v := a + 1) hb8)
        have HE6 := hide (HE5.out.trans (Eff.mono (Eff.setCell V5 La b (.int .i64 ((a + 1 : Nat) : Int))) (fun _ _ h => .inr h)))
        go_wp2_with fail
        go_ret
        rw [HF.out]
        exact ⟨rfl, HG6.out, HE6.out⟩
     ·rw [hs] at hbz
      have HL1 : Hid (loopO R (followO n R k) a ((List.range n).drop (b + 1)) t = res) := hide (by rw [← loop_skip hlt (by rw [hs]; cases R a b <;> rfl)]; exact HL.out)
      clear hr hs
      go_wp2_with fail
      go_roundw
      case rel => exact ⟨b + 1, t, by have := HK.out; omega, by go_num, HL1, HOK, HUN, HG.out, HE.out⟩
      case measure => have := HK.out; simp [intOf]; omega
   ·obtain rfl : b = n := by omega
    have HF : Hid (res = (false, t)) := hide (by rw [← HL.out, List.drop_of_length_le (by simp)]; rfl)
    have HG := hide hG
    have HE := hide hE
    clear hG hE
    go_wp2_with fail
    go_ret
    rw [HF.out]
    exact ⟨rfl, HG.out, HE.out⟩
end Go.Proofs.YtnidcoinfmcffaaDoor
