/- Walks of Clone, BinarySearch and Without; rows that are small; the rows that are used. Conditions: how the arguments lie in memory; sizes; that a list is strictly ascending. -/
import Derived.Test.YtppfdjjhloaopaaBlk
import Derived.Test.YtppfdjjhloaopaaLists
import Derived.Test.YtppfdjjhloaopaaPmodC
import Derived.WalkSpells
import Derived.Test.YtppfdjjhloaopaaProw
import Derived.Test.YtppfdjjhloaopaaBlkI
import Derived.Test.YtppfdjjhloaopaaPmodH
import Derived.Test.YtppfdjjhloaopaaPmodD
import Derived.Test.YtppfdjjhloaopaaPfK
import Derived.Test.YtppfdjjhloaopaaPiE
namespace Go.Proofs.Ytppfdjjhloaopaa
open Go.RowKit

theorem ints_news {w : World} {ad : Addr} {m n : Nat} {l : List Int} (h : IntsAt w (.slice (some ad) m n) l) : m = l.length ∧ ∀ j u, (l.map (Value.int .i64))[j]? = some u → w.cell? (ad.add j) = some u := by
  obtain ⟨a, n', e, h1, h2, h3⟩ := h
  cases e
  refine ⟨rfl, fun j u hj => ?_⟩
  have hjl : j < l.length := by have := (List.getElem?_eq_some_iff.1 hj).1; simpa using this
  obtain ⟨b, o, e, hc⟩ := h3 j hjl
  cases e
  rw [List.getElem?_map, List.getElem?_eq_getElem hjl] at hj
  simp at hj
  rw [List.getD_eq_getElem?_getD, List.getElem?_eq_getElem hjl] at hc
  by_cases h0 : j = 0
  · subst h0; simp [Addr.add]; simpa [hj] using hc
  · simp [Addr.add, h0]; simpa [hj] using hc
def CloneQ (l : List Int) (w : World) (e : Ending) (w' : World) : Prop := ∃ v, e = .returned v ∧ IntsIn (frmY w.heap.size 3 w') v l ∧ Below w.heap.size w w'
set_option maxHeartbeats 1000000 in
theorem clone_any (l : List Int) (v : Value) (w : World) (hv : IntsAt w v l) (hl : l.length < 1000000) :
    Calls Try.prog 54 #[v] w (CloneQ l w) := by
  have hnl := fun (w : World) (a : Option Addr) (n c n' c' : Nat) => Lib.run_eql_slice_nil (P := Try.prog) w 25 3 a n c n' c' Try.underlying25
  obtain ⟨i0, hi, hz0, hz1, hz2⟩ := info_parts infoInt
  obtain ⟨a, n, rfl, h1, h2, h3⟩ := id hv
  cases a with
  | none =>
    have hl0 : l = [] := by
      cases l with
      | nil => rfl
      | cons x t => obtain ⟨b, o, e, -⟩ := h3 0 (by simp); cases e
    have HL := hide hl0
    clear hl0
    go_enter Try.func54, Try.ntmps54
    go_wp2
    go_ret
    exact ⟨_, rfl, by rw [HL.out]; exact IntsIn.nil _, Below.refl _ _⟩
  | some ad =>
    obtain ⟨-, hnews⟩ := ints_news hv
    have HN := hide hnews
    have hone : ∀ u ∈ l.map (Value.int .i64), u.oneCell' = true := fun u hu => by obtain ⟨x, -, rfl⟩ := List.mem_map.1 hu; rfl
    have HO := hide hone
    have h30 := h3
    clear hnews hone h3 h30
    go_enter Try.func54, Try.ntmps54
    go_wp2_with (at_builtin; refine wpList_append_own _ rfl _ _ 25 rfl w.heap.size 3 i0 (.int .i64 0) 1 8 Try.underlying25 hi hz0 hz1 hz2 rfl (by decide) _ 0 [] rfl (World.ownsRow_lit w #[] 0 (Nat.le_refl _) (by unfold maxLen; omega) rfl) ad l.length n (l.map (Value.int .i64)) rfl (by simp) (fun j u hj => keep (bal w _) (HN.out j u hj)) HO.out (by unfold maxLen; omega) (by omega) (by simp) ?_; intro v' w' hown hg _)
    go_ret
    refine ⟨_, rfl, OwnI.intsY (B := w.heap.size) (by simpa [OwnI] using hown) (Nat.le_refl _), ?_⟩
    exact ((Below.refl _ w).alloc (Nat.le_refl _) _).grown hg (by simp) (fun k hk => by cases hk; exact Nat.le_refl _)
def ltB (x y : Int) : Bool := decide (x < y)
theorem isnan_any (x : Int) (w : World) : Calls Try.prog 90 #[.int .i64 x] w (Ret (.bool false) w) := by
  have e : (x != x) = false := by simp
  go_enter Try.func90, Try.ntmps90
  go_wp2
  go_ret
  exact ⟨rfl, Below.refl _ _⟩
theorem isnan2_any (x : Int) (w : World) : Calls Try.prog 80 #[.int .i64 x] w (Ret (.bool false) w) := by
  have e : (x != x) = false := by simp
  go_enter Try.func80, Try.ntmps80
  go_wp2
  go_ret
  exact ⟨rfl, Below.refl _ _⟩
set_option maxHeartbeats 400000 in
theorem less_any (x y : Int) (w : World) : Calls Try.prog 79 #[.int .i64 x, .int .i64 y] w (Ret (.bool (ltB x y)) w) := by
  have HF : Hid (ltB x y = decide (x < y)) := hide rfl
  go_enter Try.func79, Try.ntmps79
  go_wp2_with (go_at_call 90; refine (isnan_any _ _).mono ?_; rintro e w1 ⟨rfl, hb1⟩)
  go_ret
  exact ⟨ret_bool HF.out.symm, hb1⟩
def Bin2 (l : List Int) (x : Int) (w : World) (e : Ending) (w' : World) : Prop := ∃ n : Int, e = .returned (.tuple #[.int .i64 n, .bool (memB l x)]) ∧ Below w.heap.size w w'
theorem bin2_of {l : List Int} {x n : Int} {b : Bool} {w w' : World} (h : memB l x = b) (hb : Below w.heap.size w w') : Bin2 l x w (.returned (.tuple #[.int .i64 n, .bool b])) w' := ⟨n, by rw [h], hb⟩
theorem memB_yes {l : List Int} {x : Int} {k : Nat} (hk : k < l.length) (h : l.getD k 0 = x) : memB l x = true :=
  List.any_eq_true.2 ⟨_, getD_mem l k (d := 0) hk, by simpa using h⟩
theorem memB_no {l : List Int} {x : Int} (h : ∀ k, k < l.length → l.getD k 0 ≠ x) : memB l x = false := by
  rw [← Bool.not_eq_true]; intro hm
  obtain ⟨y, hy, e⟩ := List.any_eq_true.1 hm
  obtain ⟨k, hk, rfl⟩ := List.getElem_of_mem hy
  have := h k hk
  rw [List.getD_eq_getElem?_getD, List.getElem?_eq_getElem hk] at this
  simp at this e
  exact this e
set_option maxHeartbeats 1000000 in
theorem bin_any (l : List Int) (v : Value) (x : Int) (w : World) (hv : IntsAt w v l) (hl : l.length < 1000000) (hs : AscL l) :
    Calls Try.prog 55 #[v, .int .i64 x] w (Bin2 l x w) := by
  obtain ⟨a, n, rfl, h1, h2, hc⟩ := id hv
  go_enter Try.func55, Try.ntmps55
  go_wp2
  go_loopw [7, 8] (fun i j wr => ∃ (i' j' : Nat), i' ≤ j' ∧ j' ≤ l.length ∧ i = .int .i64 i' ∧ j = .int .i64 j' ∧ Hid (∀ k, k < i' → l.getD k 0 < x) ∧ Hid (∀ k, j' ≤ k → k < l.length → x ≤ l.getD k 0) ∧ Below w.heap.size w wr) (fun i j _ => (intOf j).toNat - (intOf i).toNat)
  case atStart => exact ⟨0, l.length, by omega, by omega, rfl, rfl, fun k hk => by omega, fun k h1 h2 => by omega, Below.refl _ _⟩
  case round =>
    obtain ⟨i, j, hij, hjl, rfl, rfl, HL, HR, hbr⟩ := hrel
    by_cases hlt : i < j
    · obtain ⟨b, o, rfl, hck⟩ := hc ((i + j) / 2) (by omega)
      have ck := keep hbr hck
      have HA := hide (hs ((i + j) / 2))
      have HB := hide (fun k (h : k < (i + j) / 2) => hs k ((i + j) / 2) h (by omega))
      generalize hy : l.getD ((i + j) / 2) 0 = y at ck HA HB hck
      have HYE := hide hy
      clear hy
      have HY : Hid (ltB y x = decide (y < x)) := hide rfl
      clear hs hc hck
      cases hb : ltB y x
      · have HX : Hid (x ≤ y) := hide (by have := HY.out; rw [hb] at this; have := this.symm; simp at this; exact this)
        go_wp2_with (go_at_call 79; refine (less_any _ _ _).mono ?_; rw [hb]; rintro e w1 ⟨rfl, hb1⟩)
        go_roundw
        case rel => exact ⟨i, (i + j) / 2, by omega, by omega, rfl, i64_eq (by omega), HL, fun k h1 h2 => by
          have h3 := HX.out
          rcases Nat.lt_or_ge ((i + j) / 2) k with h4 | h4
          · have := HA.out k h4 h2; omega
          · obtain rfl : k = (i + j) / 2 := by omega
            rw [HYE.out]; exact h3, below2 hbr hb1⟩
        case measure => simp [intOf]; omega
      · have HX : Hid (y < x) := hide (by have := HY.out; rw [hb] at this; have := this.symm; simp at this; exact this)
        go_wp2_with (go_at_call 79; refine (less_any _ _ _).mono ?_; rw [hb]; rintro e w1 ⟨rfl, hb1⟩)
        go_roundw
        case rel => exact ⟨(i + j) / 2 + 1, j, by omega, by omega, i64_eq (by omega), rfl, fun k hk => by
          have h3 := HX.out
          rcases Nat.lt_or_ge k ((i + j) / 2) with h4 | h4
          · have := HB.out k h4; omega
          · obtain rfl : k = (i + j) / 2 := by omega
            rw [HYE.out]; exact h3, HR, below2 hbr hb1⟩
        case measure => simp [intOf]; omega
    · obtain rfl : i = j := by omega
      by_cases hn : i < l.length
      · obtain ⟨b, o, rfl, hck⟩ := hc i hn
        have ck := keep hbr hck
        have HM1 := hide (memB_yes (x := x) hn)
        have HM2 : Hid (l.getD i 0 ≠ x → memB l x = false) := hide fun h => memB_no fun k hk => by
          rcases Nat.lt_or_ge k i with h1 | h1
          · have := HL.out k h1; omega
          · rcases Nat.lt_or_ge i k with h2 | h2
            · have := hs i k h2 hk; have := HR.out i (Nat.le_refl _) hn; omega
            · obtain rfl : k = i := by omega
              exact h
        generalize l.getD i 0 = y at ck HM1 HM2 hck
        clear hs hc hck
        by_cases hyx : y = x
        · have e1 : (y == x) = true := by simpa using hyx
          have HYX := hide hyx
          clear hyx
          go_wp2
          go_ret2
          exact bin2_of (HM1.out HYX.out) hbr
        · have e1 : (y == x) = false := by simpa using hyx
          have HYX := hide hyx
          clear hyx
          go_wp2_with (go_at_call 80; refine (isnan2_any _ _).mono ?_; rintro e w1 ⟨rfl, hb1⟩)
          go_ret2
          exact bin2_of (HM2.out HYX.out) (below2 hbr hb1)
      · have HM : Hid (memB l x = false) := hide (memB_no fun k hk => by have := HL.out k (by omega); omega)
        clear hs hc
        go_wp2
        go_ret2
        exact bin2_of HM.out hbr
end Go.Proofs.Ytppfdjjhloaopaa
namespace Go.Proofs.Ytppfdjjhloaopaa
open Go.RowKit

/-- a program in memory -/
theorem RowsIn.nil (c : Rd) : RowsIn c (.slice none 0 0) [] := ⟨none, 0, rfl, Nat.le_refl _, by omega, fun k hk => by simp at hk⟩
set_option maxRecDepth 100000 in
set_option maxHeartbeats 2000000 in
theorem without_any (p : ProgD) (rv gv lv : Value) (l : List Int) (w : World) (hr : RowsAt w rv p.rows) (hg : IntsAt w gv p.gain) (hl : IntsAt w lv l) (hp : p.rows.length < 1000000) :
    Calls Try.prog 30 #[progV p rv gv, lv] w (RetM2 (fun c v u => ProgIn c v (withoutF p l) ∧ u = .int .i64 (errW p l)) w) := by
  obtain ⟨ra, rc, rfl, hrl, hrm, hrc⟩ := id hr
  obtain ⟨la, lc, rfl, hll, hlm, hlc⟩ := id hl
  obtain ⟨w0, hw0, hb0, -, -, -⟩ := boxedProg w p.vars (.slice ra p.rows.length rc) gv
  obtain ⟨w1, hw1, hb1, -, -⟩ := boxed w0 #[.int .i64 0, .slice none 0 0, .slice none 0 0] 27
  have hz0 : w0.heap.size = w.heap.size + 1 := by rw [← hw0]; simp
  have bP : Blk w1 w.heap.size [.int .i64 p.vars, .slice ra p.rows.length rc, gv] 27 := by rw [← hw1, ← hw0]; exact (Blk.new w _ _).old _
  have bR : Blk w1 (w.heap.size + 1) [.int .i64 0, .slice none 0 0, .slice none 0 0] 27 := by rw [← hw1, ← hz0]; exact Blk.new w0 _ _
  have hb01 := below2 hb0 hb1
  have hz1 : w1.heap.size = w.heap.size + 1 + 1 := by rw [← hw1, World.size_alloc, hz0]
  have HW1 := hide hw1
  have HW0 := hide hw0
  have HZ := hide hz1
  have HNO : Hid (okW p l = false → withoutF p l = ⟨0, [], []⟩ ∧ errW p l = 330) := hide fun h => ⟨by unfold withoutF; rw [h]; rfl, by unfold errW; rw [h]; rfl⟩
  have HYES : Hid (okW p l = true → withoutF p l = ⟨p.vars, keptUp p.rows l p.rows.length, p.gain⟩ ∧ errW p l = 0) := hide fun h => ⟨by unfold withoutF; rw [h]; rfl, by unfold errW; rw [h]; rfl⟩
  have HOK : Hid (okW p l = (okUp l p.rows.length l.length && validB p)) := hide rfl
  have hm1 : (p.rows.length : Int) ≤ 9223372036854775807 := by omega
  clear hw0 hw1 hz0 hz1 hb0 hb1
  go_enter Try.func30, Try.ntmps30
  go_wp2_with fail
  rw [HW0.out, HW1.out]
  go_loopw [6, 7, 15] (fun _ _ i wr => ∃ k : Nat, k ≤ l.length ∧ i = .int .i64 k ∧ Hid (okUp l p.rows.length k = true) ∧ Below w1.heap.size w1 wr) (fun _ _ i _ => l.length - (intOf i).toNat)
  case atStart => exact ⟨0, by omega, rfl, rfl, Below.refl _ _⟩
  case round =>
    obtain ⟨k, hk, rfl, HU, hbr⟩ := hrel
    have bPr := bP.later hbr
    have bRr := bR.later hbr
    have hbw := below2 hb01 hbr
    have p1 := bPr.cell 1 rfl
    by_cases hlt : k < l.length
    · obtain ⟨b, o, rfl, hck⟩ := hlc k hlt
      have HNk := hide (fun h => okUp_no (l := l) (n := p.rows.length) (k := k) (m := l.length) h hlt)
      have HS := hide (okUp_succ (l := l) (n := p.rows.length) (k := k))
      have HA : Hid (okAt l p.rows.length k = (isInB 0 (l.getD k 0) ((p.rows.length : Int) - 1) && (decide (k = 0) || decide (l.getD (k - 1) 0 < l.getD k 0)))) := hide rfl
      have hprev : 0 < k → w.cell? ⟨b, o + (k - 1), none⟩ = some (.int .i64 (l.getD (k - 1) 0)) := fun h => by
        obtain ⟨b', o', e, hc⟩ := hlc (k - 1) (by omega); cases e; exact hc
      generalize l.getD k 0 = x at hck HA
      generalize l.getD (k - 1) 0 = y at hprev HA
      have ck := keep hbw hck
      cases hI : isInB 0 x ((p.rows.length : Int) - 1)
      · have HO := HNO.out (by rw [HOK.out, HNk.out (by rw [HA.out, hI]; rfl)]; rfl)
        have HOp := hide HO
        clear HO
        go_wp2_with fail
        refine (isIn_any _ _ _ _).mono ?_
        rw [hI]
        rintro e w2 ⟨rfl, hb2⟩
        have bR2 := bRr.later hb2
        have t0 := bR2.cell 0 rfl
        have t1 := bR2.cell 1 rfl
        have t2 := bR2.cell 2 rfl
        have f0 := bR2.frozen 0
        have f1 := bR2.frozen 1
        have f2 := bR2.frozen 2
        go_wp2_with fail
        obtain ⟨z1, z2, -⟩ := set3 bR2 (.int .i64 0) (.slice none 0 0) (.slice none 0 0)
        have z3 := z2 _ _ (below2 hbw hb2) (by omega)
        generalize World.setCell (World.setCell _ _ _) ⟨w.heap.size + 1, 2, none⟩ _ = Wf at z1 z3 ⊢
        have y0 := z1.cell 0 rfl
        have y1 := z1.cell 1 rfl
        have y2 := z1.cell 2 rfl
        refine bodyPost_ret (v := .tuple #[.agg #[.int .i64 0, .slice none 0 0, .slice none 0 0], .int .i64 330]) (by simp [results, Try.results30, go_sem, y0, y1, y2]) rfl ?_
        exact ⟨_, _, rfl, ⟨⟨_, _, by rw [HOp.out.1], by rw [HOp.out.1]; exact RowsIn.nil _, by rw [HOp.out.1]; exact IntsIn.nil _⟩, by rw [HOp.out.2]⟩, z3⟩
      · by_cases hk0 : k = 0
        · have HOK1 : Hid (okAt l p.rows.length k = true) := hide (by rw [HA.out, hI, decide_eq_true hk0]; rfl)
          subst hk0
          have ck0 : wr.cell? ⟨b, o, none⟩ = some (.int .i64 x) := ck
          clear hprev hrc hlc hck
          go_wp2_with fail
          refine (isIn_any _ _ _ _).mono ?_
          rw [hI]
          rintro e w2 ⟨rfl, hb2⟩
          go_wp2_with fail
          go_roundw
          case rel => exact ⟨0 + 1, by omega, by go_num, by show okUp _ _ _ = true; rw [HS.out, HU.out, HOK1.out]; rfl, below2 hbr hb2⟩
          case measure => simp [intOf]; omega
        · have hk1 : (0 : Int) < (k : Int) := by omega
          have cy := keep hbw (hprev (by omega))
          clear hprev hrc hlc hck
          by_cases hxy : y < x
          · have HOK1 : Hid (okAt l p.rows.length k = true) := hide (by rw [HA.out, hI, decide_eq_true hxy]; simp)
            have hxy' : ¬ x ≤ y := by omega
            go_wp2_with fail
            refine (isIn_any _ _ _ _).mono ?_
            rw [hI]
            rintro e w2 ⟨rfl, hb2⟩
            have cy2 := keep hb2 cy
            go_wp2_with fail
            go_roundw
            case rel => exact ⟨k + 1, by omega, by go_num, by show okUp _ _ _ = true; rw [HS.out, HU.out, HOK1.out]; rfl, below2 hbr hb2⟩
            case measure => simp [intOf]; omega
          · have HO := HNO.out (by rw [HOK.out, HNk.out (by rw [HA.out, hI, decide_eq_false hxy, decide_eq_false hk0]; rfl)]; rfl)
            have HOp := hide HO
            have hxy' : x ≤ y := by omega
            clear HO
            go_wp2_with fail
            refine (isIn_any _ _ _ _).mono ?_
            rw [hI]
            rintro e w2 ⟨rfl, hb2⟩
            have cy2 := keep hb2 cy
            have bR2 := bRr.later hb2
            have t0 := bR2.cell 0 rfl
            have t1 := bR2.cell 1 rfl
            have t2 := bR2.cell 2 rfl
            have f0 := bR2.frozen 0
            have f1 := bR2.frozen 1
            have f2 := bR2.frozen 2
            go_wp2_with fail
            obtain ⟨z1, z2, -⟩ := set3 bR2 (.int .i64 0) (.slice none 0 0) (.slice none 0 0)
            have z3 := z2 _ _ (below2 hbw hb2) (by omega)
            generalize World.setCell (World.setCell _ _ _) ⟨w.heap.size + 1, 2, none⟩ _ = Wf at z1 z3 ⊢
            have y0 := z1.cell 0 rfl
            have y1 := z1.cell 1 rfl
            have y2 := z1.cell 2 rfl
            refine bodyPost_ret (v := .tuple #[.agg #[.int .i64 0, .slice none 0 0, .slice none 0 0], .int .i64 330]) (by simp [results, Try.results30, go_sem, y0, y1, y2]) rfl ?_
            exact ⟨_, _, rfl, ⟨⟨_, _, by rw [HOp.out.1], by rw [HOp.out.1]; exact RowsIn.nil _, by rw [HOp.out.1]; exact IntsIn.nil _⟩, by rw [HOp.out.2]⟩, z3⟩
    · obtain rfl : k = l.length := by omega
      have p0 := bPr.cell 0 rfl
      have p2 := bPr.cell 2 rfl
      cases hV : validB p
      · have HO := HNO.out (by rw [HOK.out, hV, Bool.and_false])
        have HOp := hide HO
        clear HO
        go_wp2_with fail
        refine (valid_any p _ _ _ (hr.below hbw) (hg.below hbw)).mono ?_
        rw [hV]
        rintro e w2 ⟨rfl, hb2⟩
        have bR2 := bRr.later hb2
        have t0 := bR2.cell 0 rfl
        have t1 := bR2.cell 1 rfl
        have t2 := bR2.cell 2 rfl
        have f0 := bR2.frozen 0
        have f1 := bR2.frozen 1
        have f2 := bR2.frozen 2
        go_wp2_with fail
        obtain ⟨z1, z2, -⟩ := set3 bR2 (.int .i64 0) (.slice none 0 0) (.slice none 0 0)
        have z3 := z2 _ _ (below2 hbw hb2) (by omega)
        generalize World.setCell (World.setCell _ _ _) ⟨w.heap.size + 1, 2, none⟩ _ = Wf at z1 z3 ⊢
        have y0 := z1.cell 0 rfl
        have y1 := z1.cell 1 rfl
        have y2 := z1.cell 2 rfl
        refine bodyPost_ret (v := .tuple #[.agg #[.int .i64 0, .slice none 0 0, .slice none 0 0], .int .i64 330]) (by simp [results, Try.results30, go_sem, y0, y1, y2]) rfl ?_
        exact ⟨_, _, rfl, ⟨⟨_, _, by rw [HOp.out.1], by rw [HOp.out.1]; exact RowsIn.nil _, by rw [HOp.out.1]; exact IntsIn.nil _⟩, by rw [HOp.out.2]⟩, z3⟩
      · have HO := HYES.out (by rw [HOK.out, hV, HU.out]; rfl)
        have HOp := hide HO
        clear HO
        go_wp2_with fail
        refine (valid_any p _ _ _ (hr.below hbw) (hg.below hbw)).mono ?_
        rw [hV]
        rintro e w2 ⟨rfl, hb2⟩
        have bR2 := bRr.later hb2
        have bP2 := bPr.later hb2
        have q0 := bP2.cell 0 rfl
        have q1 := bP2.cell 1 rfl
        have q2 := bP2.cell 2 rfl
        have hbw2 := below2 hbw hb2
        have hgl : p.gain.length < 1000000 := by obtain ⟨v0, v12, -, -, h1, -⟩ := valid_parts hV; omega
        have hrs : ∀ r ∈ p.rows, r.coef.length < 1000000 := by obtain ⟨v0, v12, -, h1, -⟩ := valid_parts hV; exact fun r hr => by have := (h1 r hr).1; omega
        have HRS := hide hrs
        have HAS := hide (okUp_asc HU.out)
        have HLL := hide (okUp_len HU.out)
        clear p0 p1 p2 hrs
        go_wp2_with fail
        have hne : w.heap.size < w2.heap.size := by have := hbw2.size; have := bP2.lt; omega
        have hq := hide (And.intro q0 q2)
        go_region_held3 (fun w' => w'.cell? ⟨w.heap.size, 0, none⟩ = some (.int .i64 p.vars) ∧ w'.cell? ⟨w.heap.size, 2, none⟩ = some gv)
          (first | go_keep | (exact ⟨keep hb4 hq.out.1, keep hb4 hq.out.2⟩) | (exact ⟨keep (below2 hb4 (bal w3 _)) hq.out.1, keep (below2 hb4 (bal w3 _)) hq.out.2⟩) | (exact ⟨keep ((set3 bO _ _ _).2.1 _ _ hb4 (Nat.le_refl _)) hq.out.1, keep ((set3 bO _ _ _).2.1 _ _ hb4 (Nat.le_refl _)) hq.out.2⟩))
          (first | (go_at_call 54; refine (clone_any p.gain _ _ ((hg.below hbw2).below (by first | exact (Below.refl _ _).drew | exact (bal _ _).drew)) hgl).mono ?_; rintro e w3 ⟨gv', rfl, hgv', hb3⟩; obtain ⟨ga', gn', rfl, -, -, -⟩ := id hgv'; have hb4 : Below w2.heap.size w2 w3 := (by first | exact below2 (Below.refl _ w2).drew hb3 | exact below2 (bal w2.drew _) hb3 | exact below2 (bal w2 _).drew hb3); try (have bO : Blk w3 w2.heap.size [.int .i64 0, .slice none 0 0, .slice none 0 0] 27 := Blk.later (Blk.new w2.drew _ _) hb3; have o0 := bO.cell 0 rfl; have o1 := bO.cell 1 rfl; have o2 := bO.cell 2 rfl; have of0 := bO.frozen 0; have of1 := bO.frozen 1; have of2 := bO.frozen 2)))
        all_goals first
          | (obtain ⟨z1, z2, -⟩ := set3 bO (.int .i64 p.vars) (.slice none 0 0) (.slice ga' p.gain.length gn')
             have hb5 := z2 _ _ hb4 (Nat.le_refl _)
             have hg5 := (((hgv'.keeps (keeps_frmY_le _ w3 (B' := w.heap.size) (by have := hbw2.size; first | exact this | (simp; omega)))).keeps (keeps_frmY_set bO (by decide) 0 (.int .i64 p.vars))).keeps (keeps_frmY_set (bO.set 0 _) (by decide) 1 (.slice none 0 0))).keeps (keeps_frmY_set ((bO.set 0 _).set 1 _) (by decide) 2 (.slice ga' p.gain.length gn'))
             clear o0 o1 o2 of0 of1 of2 bO
             generalize World.setCell (World.setCell (World.setCell w3 _ _) _ _) _ _ = W4 at z1 hb5 hg5 ⊢
             have hob : w2.heap.size ≤ w2.heap.size := Nat.le_refl _)
          | (have z1 := Blk.new w3 [.int .i64 p.vars, .slice none 0 0, .slice ga' p.gain.length gn'] 27
             have hb5 := below2 hb4 (bal w3 (.cells #[.int .i64 p.vars, .slice none 0 0, .slice ga' p.gain.length gn'] 27))
             have hg5 := (hgv'.keeps (keeps_frmY_le _ w3 (B' := w.heap.size) (by have := hbw2.size; first | exact this | (simp; omega)))).keeps (keeps_frmY_below (bal w3 (.cells #[.int .i64 p.vars, .slice none 0 0, .slice ga' p.gain.length gn'] 27)))
             generalize World.alloc w3 _ = W4 at z1 hb5 hg5 ⊢
             have hob : w2.heap.size ≤ w3.heap.size := hb4.size)
        · skip
          have q1' := keep hb5 q1
          have hnb : w3.heap.size < W4.heap.size := z1.lt
          have hgq := hide hg5
          have hob2 := hbw2.size
          clear hg5 hq
          go_wp2_with fail
          go_loopw [55] (fun i wr => ∃ (k : Nat) (v : Value), k ≤ p.rows.length ∧ i = .int .i64 k ∧ RowsOwn wr w.heap.size W4.heap.size v (keptUp p.rows l k) ∧ Blk wr w3.heap.size [.int .i64 p.vars, v, .slice ga' p.gain.length gn'] 27 ∧ IntsIn (frmY w.heap.size 3 wr) (.slice ga' p.gain.length gn') p.gain ∧ Below w2.heap.size w2 wr ∧ W4.heap.size ≤ wr.heap.size) (fun i _ => p.rows.length - (intOf i).toNat)
          case atStart => exact ⟨0, _, by omega, rfl, RowsOwn.nil _ _ _, z1, hgq, hb5, Nat.le_refl _⟩
          case round =>
            obtain ⟨k, v, hk, rfl, hRO, bO, hgr, hbr, hz⟩ := hrel
            by_cases hlt : k < p.rows.length
            · obtain ⟨b, o, cv, rfl, hck⟩ := hrc k hlt
              have hm := getD_mem p.rows k (d := row0) hlt
              have HKY := hide (keptUp_yes (l := p.rows) (rows := l) (k := k))
              have HKN := hide (keptUp_no (l := p.rows) (rows := l) (k := k))
              have hle := keptUp_le p.rows l k
              have hql := HRS.out _ hm
              generalize p.rows.getD k row0 = x at hck hm HKY HKN hql
              obtain ⟨e0, e1, e2, e3, e4, e5, e6⟩ := hck.below (below2 hbw2 hbr)
              obtain ⟨ca, cc, rfl, -, -, -⟩ := id e6
              clear hck
              have HRC := hide hrc
              clear hrc hlc hm
              have hlr := (hl.below hbw2).below hbr
              go_wp2_with fail
              refine (bin_any l _ _ _ (hlr.below (bal wr _)) (by have := HLL.out; omega) HAS.out).mono ?_
              rintro e w5 ⟨ix, rfl, hb6⟩
              have hb7 := below2 (bal wr _) hb6
              have bB := (Blk.new wr (rowCells x (.slice ca x.coef.length cc)) 67).later hb6
              cases hM : memB l k
              · have r4 := bB.cell 4 rfl
                have r0 := bB.cell 0 rfl
                have r1 := bB.cell 1 rfl
                have r2 := bB.cell 2 rfl
                have r3 := bB.cell 3 rfl
                have r5 := bB.cell 5 rfl
                have hsk := hb7.size
                have hoblt : w3.heap.size < wr.heap.size := bO.lt
                have hne1 : w3.heap.size ≠ wr.heap.size := by omega
                have hne2 : wr.heap.size ≠ w3.heap.size := by omega
                go_wp2_with (first | (go_at_call 54; refine (clone_any x.coef _ _ ((e6.below hb7)) hql).mono ?_; rintro e w6 ⟨cvn, rfl, hcn, hb8⟩; obtain ⟨na, nc, rfl, -, -, -⟩ := id hcn; have t0 := keep hb8 r0; have t1 := keep hb8 r1; have t2 := keep hb8 r2; have t3 := keep hb8 r3; have t4 := keep hb8 r4; have t5 := keep hb8 r5; have bB8 := bB.later hb8; have f4 := bB8.frozen 4; have hb9 := below2 hb7 hb8; have o6 := keep hb9 (bO.cell 1 rfl)) | (at_builtin; have hb10 : Below wr.heap.size wr (w6.setCell ⟨wr.heap.size, 4, none⟩ (.slice na x.coef.length nc)) := hb9.setCell (p := ⟨wr.heap.size, 4, none⟩) (Nat.le_refl _) _; obtain ⟨L, hOR, hLl, hLs⟩ := hRO.later hb10; have hs10 := hb10.size; have bO10 := bO.later hb10; refine app_rec infoRow rfl (by decide) rfl rfl _ _ rfl W4.heap.size _ L rfl hOR (rowCells x (.slice na x.coef.length nc)) rfl cells6 _ rfl (by simp) (by omega) (by omega) (by omega) ?_; intro g7 c7 w7 hO7 hE7 hz7; have bO7 := hE7.blk bO10 (by decide); have o71 := bO7.cell 1 rfl; have of7 := bO7.frozen 1))
                go_roundw
                case rel =>
                  have hxc := ((hcn.keeps (keeps_frmY_le _ w6 (B' := w.heap.size) (by omega))).keeps (keeps_frmY_set bB8 (by decide) 4 (.slice na x.coef.length nc)))
                  rw [List.length_append, hLl] at hO7
                  have hRO7 := (RowsOwn.app hLl hLs hxc hO7 hE7).set bO7 hnb (by decide) 1 (.slice (some ⟨g7, 0, none⟩) ((keptUp p.rows l k).length + 1) c7)
                  refine ⟨k + 1, _, by omega, by go_num, by rw [HKY.out hM]; exact hRO7, bO7.set 1 _, ((hgr.keeps (keeps_frmY_below hb10)).keeps (keeps_frmY_eff hE7 (by decide))).keeps (keeps_frmY_set bO7 (by decide) 1 _), ?_, ?_⟩
                  · exact ((hbr.trans (hb10.mono hbr.size)).trans ((hE7.below (by omega)).mono (by omega))).setCell (p := ⟨w3.heap.size, 1, none⟩) hob _
                  · simp [World.setCell] at hz7 hs10 ⊢; omega
                case measure => simp [intOf]; omega
              · go_wp2_with fail
                go_roundw
                case rel => exact ⟨k + 1, v, by omega, by go_num, by rw [HKN.out hM]; exact hRO.later hb7, bO.later hb7, hgr.keeps (keeps_frmY_below hb7), below2 hbr hb7, by have := hb7.size; omega⟩
                case measure => simp [intOf]; omega
            · obtain rfl : k = p.rows.length := by omega
              obtain ⟨va, vc, rfl⟩ := hRO.form
              have bRr2 := bR2.later hbr
              have o0 := bO.cell 0 rfl
              have o1 := bO.cell 1 rfl
              have o2 := bO.cell 2 rfl
              have t0 := bRr2.cell 0 rfl
              have t1 := bRr2.cell 1 rfl
              have t2 := bRr2.cell 2 rfl
              have f0 := bRr2.frozen 0
              have f1 := bRr2.frozen 1
              have f2 := bRr2.frozen 2
              have hwR : w.heap.size + 1 < W4.heap.size := by have := bR2.lt; have := hbr.size; have := z1.lt; omega
              go_wp2_with fail
              obtain ⟨y1, y2, -⟩ := set3 bRr2 (.int .i64 p.vars) (.slice va (keptUp p.rows l p.rows.length).length vc) (.slice ga' p.gain.length gn')
              have y3 := y2 _ _ (below2 hbw2 hbr) (by omega)
              have hRf := ((hRO.set bRr2 hwR (by decide) 0 (.int .i64 p.vars)).set (bRr2.set 0 _) hwR (by decide) 1 (.slice va (keptUp p.rows l p.rows.length).length vc)).set ((bRr2.set 0 _).set 1 _) hwR (by decide) 2 (.slice ga' p.gain.length gn')
              have hgf := ((hgr.keeps (keeps_frmY_set bRr2 (by decide) 0 (.int .i64 p.vars))).keeps (keeps_frmY_set (bRr2.set 0 _) (by decide) 1 (.slice va (keptUp p.rows l p.rows.length).length vc))).keeps (keeps_frmY_set ((bRr2.set 0 _).set 1 _) (by decide) 2 (.slice ga' p.gain.length gn'))
              generalize World.setCell (World.setCell _ _ _) ⟨w.heap.size + 1, 2, none⟩ _ = Wf at y1 y3 hRf hgf ⊢
              have x0 := y1.cell 0 rfl
              have x1 := y1.cell 1 rfl
              have x2 := y1.cell 2 rfl
              refine bodyPost_ret (v := .tuple #[.agg #[.int .i64 p.vars, .slice va (keptUp p.rows l p.rows.length).length vc, .slice ga' p.gain.length gn'], .int .i64 0]) (by simp [results, Try.results30, go_sem, x0, x1, x2]) rfl ?_
              exact ⟨_, _, rfl, ⟨⟨_, _, by rw [HOp.out.1], by rw [HOp.out.1]; exact hRf.at (Nat.le_refl _) (by omega), by rw [HOp.out.1]; exact hgf.keeps (keeps_frmY _ _ _)⟩, by rw [HOp.out.2]⟩, y3⟩
        · skip
          have q1' := keep hb5 q1
          have hnb : w2.heap.size < W4.heap.size := z1.lt
          have hgq := hide hg5
          have hob2 := hbw2.size
          clear hg5 hq
          go_wp2_with fail
          go_loopw [55] (fun i wr => ∃ (k : Nat) (v : Value), k ≤ p.rows.length ∧ i = .int .i64 k ∧ RowsOwn wr w.heap.size W4.heap.size v (keptUp p.rows l k) ∧ Blk wr w2.heap.size [.int .i64 p.vars, v, .slice ga' p.gain.length gn'] 27 ∧ IntsIn (frmY w.heap.size 3 wr) (.slice ga' p.gain.length gn') p.gain ∧ Below w2.heap.size w2 wr ∧ W4.heap.size ≤ wr.heap.size) (fun i _ => p.rows.length - (intOf i).toNat)
          case atStart => exact ⟨0, _, by omega, rfl, RowsOwn.nil _ _ _, z1, hgq, hb5, Nat.le_refl _⟩
          case round =>
            obtain ⟨k, v, hk, rfl, hRO, bO, hgr, hbr, hz⟩ := hrel
            by_cases hlt : k < p.rows.length
            · obtain ⟨b, o, cv, rfl, hck⟩ := hrc k hlt
              have hm := getD_mem p.rows k (d := row0) hlt
              have HKY := hide (keptUp_yes (l := p.rows) (rows := l) (k := k))
              have HKN := hide (keptUp_no (l := p.rows) (rows := l) (k := k))
              have hle := keptUp_le p.rows l k
              have hql := HRS.out _ hm
              generalize p.rows.getD k row0 = x at hck hm HKY HKN hql
              obtain ⟨e0, e1, e2, e3, e4, e5, e6⟩ := hck.below (below2 hbw2 hbr)
              obtain ⟨ca, cc, rfl, -, -, -⟩ := id e6
              clear hck
              have HRC := hide hrc
              clear hrc hlc hm
              have hlr := (hl.below hbw2).below hbr
              go_wp2_with fail
              refine (bin_any l _ _ _ (hlr.below (bal wr _)) (by have := HLL.out; omega) HAS.out).mono ?_
              rintro e w5 ⟨ix, rfl, hb6⟩
              have hb7 := below2 (bal wr _) hb6
              have bB := (Blk.new wr (rowCells x (.slice ca x.coef.length cc)) 67).later hb6
              cases hM : memB l k
              · have r4 := bB.cell 4 rfl
                have r0 := bB.cell 0 rfl
                have r1 := bB.cell 1 rfl
                have r2 := bB.cell 2 rfl
                have r3 := bB.cell 3 rfl
                have r5 := bB.cell 5 rfl
                have hsk := hb7.size
                have hoblt : w2.heap.size < wr.heap.size := bO.lt
                have hne1 : w2.heap.size ≠ wr.heap.size := by omega
                have hne2 : wr.heap.size ≠ w2.heap.size := by omega
                go_wp2_with (first | (go_at_call 54; refine (clone_any x.coef _ _ ((e6.below hb7)) hql).mono ?_; rintro e w6 ⟨cvn, rfl, hcn, hb8⟩; obtain ⟨na, nc, rfl, -, -, -⟩ := id hcn; have t0 := keep hb8 r0; have t1 := keep hb8 r1; have t2 := keep hb8 r2; have t3 := keep hb8 r3; have t4 := keep hb8 r4; have t5 := keep hb8 r5; have bB8 := bB.later hb8; have f4 := bB8.frozen 4; have hb9 := below2 hb7 hb8; have o6 := keep hb9 (bO.cell 1 rfl)) | (at_builtin; have hb10 : Below wr.heap.size wr (w6.setCell ⟨wr.heap.size, 4, none⟩ (.slice na x.coef.length nc)) := hb9.setCell (p := ⟨wr.heap.size, 4, none⟩) (Nat.le_refl _) _; obtain ⟨L, hOR, hLl, hLs⟩ := hRO.later hb10; have hs10 := hb10.size; have bO10 := bO.later hb10; refine app_rec infoRow rfl (by decide) rfl rfl _ _ rfl W4.heap.size _ L rfl hOR (rowCells x (.slice na x.coef.length nc)) rfl cells6 _ rfl (by simp) (by omega) (by omega) (by omega) ?_; intro g7 c7 w7 hO7 hE7 hz7; have bO7 := hE7.blk bO10 (by decide); have o71 := bO7.cell 1 rfl; have of7 := bO7.frozen 1))
                go_roundw
                case rel =>
                  have hxc := ((hcn.keeps (keeps_frmY_le _ w6 (B' := w.heap.size) (by omega))).keeps (keeps_frmY_set bB8 (by decide) 4 (.slice na x.coef.length nc)))
                  rw [List.length_append, hLl] at hO7
                  have hRO7 := (RowsOwn.app hLl hLs hxc hO7 hE7).set bO7 hnb (by decide) 1 (.slice (some ⟨g7, 0, none⟩) ((keptUp p.rows l k).length + 1) c7)
                  refine ⟨k + 1, _, by omega, by go_num, by rw [HKY.out hM]; exact hRO7, bO7.set 1 _, ((hgr.keeps (keeps_frmY_below hb10)).keeps (keeps_frmY_eff hE7 (by decide))).keeps (keeps_frmY_set bO7 (by decide) 1 _), ?_, ?_⟩
                  · exact ((hbr.trans (hb10.mono hbr.size)).trans ((hE7.below (by omega)).mono (by omega))).setCell (p := ⟨w2.heap.size, 1, none⟩) hob _
                  · simp [World.setCell] at hz7 hs10 ⊢; omega
                case measure => simp [intOf]; omega
              · go_wp2_with fail
                go_roundw
                case rel => exact ⟨k + 1, v, by omega, by go_num, by rw [HKN.out hM]; exact hRO.later hb7, bO.later hb7, hgr.keeps (keeps_frmY_below hb7), below2 hbr hb7, by have := hb7.size; omega⟩
                case measure => simp [intOf]; omega
            · obtain rfl : k = p.rows.length := by omega
              obtain ⟨va, vc, rfl⟩ := hRO.form
              have bRr2 := bR2.later hbr
              have o0 := bO.cell 0 rfl
              have o1 := bO.cell 1 rfl
              have o2 := bO.cell 2 rfl
              have t0 := bRr2.cell 0 rfl
              have t1 := bRr2.cell 1 rfl
              have t2 := bRr2.cell 2 rfl
              have f0 := bRr2.frozen 0
              have f1 := bRr2.frozen 1
              have f2 := bRr2.frozen 2
              have hwR : w.heap.size + 1 < W4.heap.size := by have := bR2.lt; have := hbr.size; have := z1.lt; omega
              go_wp2_with fail
              obtain ⟨y1, y2, -⟩ := set3 bRr2 (.int .i64 p.vars) (.slice va (keptUp p.rows l p.rows.length).length vc) (.slice ga' p.gain.length gn')
              have y3 := y2 _ _ (below2 hbw2 hbr) (by omega)
              have hRf := ((hRO.set bRr2 hwR (by decide) 0 (.int .i64 p.vars)).set (bRr2.set 0 _) hwR (by decide) 1 (.slice va (keptUp p.rows l p.rows.length).length vc)).set ((bRr2.set 0 _).set 1 _) hwR (by decide) 2 (.slice ga' p.gain.length gn')
              have hgf := ((hgr.keeps (keeps_frmY_set bRr2 (by decide) 0 (.int .i64 p.vars))).keeps (keeps_frmY_set (bRr2.set 0 _) (by decide) 1 (.slice va (keptUp p.rows l p.rows.length).length vc))).keeps (keeps_frmY_set ((bRr2.set 0 _).set 1 _) (by decide) 2 (.slice ga' p.gain.length gn'))
              generalize World.setCell (World.setCell _ _ _) ⟨w.heap.size + 1, 2, none⟩ _ = Wf at y1 y3 hRf hgf ⊢
              have x0 := y1.cell 0 rfl
              have x1 := y1.cell 1 rfl
              have x2 := y1.cell 2 rfl
              refine bodyPost_ret (v := .tuple #[.agg #[.int .i64 p.vars, .slice va (keptUp p.rows l p.rows.length).length vc, .slice ga' p.gain.length gn'], .int .i64 0]) (by simp [results, Try.results30, go_sem, x0, x1, x2]) rfl ?_
              exact ⟨_, _, rfl, ⟨⟨_, _, by rw [HOp.out.1], by rw [HOp.out.1]; exact hRf.at (Nat.le_refl _) (by omega), by rw [HOp.out.1]; exact hgf.keeps (keeps_frmY _ _ _)⟩, by rw [HOp.out.2]⟩, y3⟩
end Go.Proofs.Ytppfdjjhloaopaa
namespace Go.Proofs.Ytppfdjjhloaopaa
open Go.RowKit

def smallR (r : RowD) : Prop := -4 ≤ r.most ∧ r.most ≤ 25 ∧ ∀ c ∈ r.coef, -4 ≤ c ∧ c ≤ 11
theorem made_small (v : Int) (x : List Tri) (g : List Int) : ∀ r ∈ (madeF v x g).rows, smallR r := by
  intro r hr
  obtain ⟨i, -, rfl⟩ := List.mem_map.1 hr
  have hp : ∀ (c : Int) {n : Int}, 0 < n → 0 ≤ pickF c n ∧ pickF c n < n := fun c n h => ⟨pickF_nonneg c h, pickF_lt c h⟩
  have h2 := hp (x.getD i tri0).2.2 (n := 30) (by decide)
  refine ⟨by show _ ≤ pickF _ 30 - 4; omega, by show pickF _ 30 - 4 ≤ _; omega, fun c hc => ?_⟩
  obtain ⟨k, -, rfl⟩ := List.mem_map.1 hc
  have h3 := hp ((x.getD i tri0).1.tdiv (1 + 3 * k)) (n := 12) (by decide)
  have h4 := hp ((x.getD i tri0).2.1.tdiv (1 + 5 * k)) (n := 5) (by decide)
  unfold mco; omega
/-- the first k coefficients of the sum -/
def addUp (m n : Int) (a b : RowD) (k : Nat) : List Int := (List.range k).map fun i => m * a.coef.getD i 0 + n * b.coef.getD i 0
def greatUp (m : Int) (a : RowD) (k : Nat) : List Int := (List.range k).map fun i => (m + 1) * a.coef.getD i 0
theorem addUp_succ (m n : Int) (a b : RowD) (k : Nat) : addUp m n a b (k + 1) = addUp m n a b k ++ [m * a.coef.getD k 0 + n * b.coef.getD k 0] := by simp [addUp, List.range_succ]
theorem greatUp_succ (m : Int) (a : RowD) (k : Nat) : greatUp m a (k + 1) = greatUp m a k ++ [(m + 1) * a.coef.getD k 0] := by simp [greatUp, List.range_succ]
theorem addUp_len (m n : Int) (a b : RowD) (k : Nat) : (addUp m n a b k).length = k := by simp [addUp]
theorem greatUp_len (m : Int) (a : RowD) (k : Nat) : (greatUp m a k).length = k := by simp [greatUp]
def addR (m n : Int) (a b : RowD) (k : Nat) : RowD := ⟨0, 0, 0, 0, addUp m n a b k, m * a.most + n * b.most⟩
def greatR (m : Int) (a : RowD) (k : Nat) : RowD := ⟨0, 0, 0, 0, greatUp m a k, (m + 1) * a.most⟩
theorem rangemap_get {f : Nat → Int} {k i : Nat} (h : i < k) : ((List.range k).map f).getD i 0 = f i := by
  rw [List.getD_eq_getElem?_getD, List.getElem?_map, List.getElem?_range h]; rfl
theorem chosK_add (m n : Int) (a b : RowD) (N s : Nat) : ∀ k, k ≤ N → chosK (addUp m n a b N) s k = m * chosK a.coef s k + n * chosK b.coef s k
  | 0, _ => by simp [chosK]
  | k + 1, h => by
    have e : (addUp m n a b N).getD k 0 = m * a.coef.getD k 0 + n * b.coef.getD k 0 := rangemap_get (by omega)
    simp only [chosK, chosK_add m n a b N s k (by omega), e]
    split
    · rw [Int.mul_add, Int.mul_add]; omega
    · simp
theorem chosK_great (m : Int) (a : RowD) (N s : Nat) : ∀ k, k ≤ N → chosK (greatUp m a N) s k = (m + 1) * chosK a.coef s k
  | 0, _ => by simp [chosK]
  | k + 1, h => by
    have e : (greatUp m a N).getD k 0 = (m + 1) * a.coef.getD k 0 := rangemap_get (by omega)
    simp only [chosK, chosK_great m a N s k (by omega), e]
    split
    · rw [Int.mul_add]
    · simp
theorem kept_add {m n : Int} (hm : 0 ≤ m) (hn : 0 ≤ n) {a b : RowD} {N : Nat} (ha : a.coef.length = N) (hb : b.coef.length = N) {s : Nat} (h1 : keptB a s = true) (h2 : keptB b s = true) : keptB (addR m n a b N) s = true := by
  simp only [keptB, decide_eq_true_eq] at h1 h2 ⊢
  have e : chosenF (addR m n a b N).coef s = m * chosenF a.coef s + n * chosenF b.coef s := by
    unfold chosenF
    show chosK (addUp m n a b N) s (addUp m n a b N).length = _
    rw [addUp_len, ha, hb]; exact chosK_add m n a b N s N (Nat.le_refl _)
  rw [e]
  show _ ≤ m * a.most + n * b.most
  exact Int.add_le_add (Int.mul_le_mul_of_nonneg_left h1 hm) (Int.mul_le_mul_of_nonneg_left h2 hn)
theorem kept_great {m : Int} (hm : 0 ≤ m) {a : RowD} {N : Nat} (ha : a.coef.length = N) (s : Nat) : keptB (greatR m a N) s = keptB a s := by
  have e : chosenF (greatR m a N).coef s = (m + 1) * chosenF a.coef s := by
    unfold chosenF
    show chosK (greatUp m a N) s (greatUp m a N).length = _
    rw [greatUp_len, ha]; exact chosK_great m a N s N (Nat.le_refl _)
  simp only [keptB, e]
  rw [decide_eq_decide]
  show (m + 1) * _ ≤ (m + 1) * _ ↔ _
  exact ⟨fun h => Int.le_of_mul_le_mul_left h (by omega), fun h => Int.mul_le_mul_of_nonneg_left h (by omega)⟩
theorem mul_small {m c : Int} (h0 : 0 ≤ m) (h1 : m ≤ 51) (h2 : -4 ≤ c) (h3 : c ≤ 25) : -1000 ≤ m * c ∧ m * c ≤ 2000 := by
  have a1 : m * (-4) ≤ m * c := Int.mul_le_mul_of_nonneg_left h2 h0
  have a2 : m * c ≤ m * 25 := Int.mul_le_mul_of_nonneg_left h3 h0
  omega
theorem getD_small {l : List Int} (h : ∀ c ∈ l, -4 ≤ c ∧ c ≤ 11) (k : Nat) : -4 ≤ l.getD k 0 ∧ l.getD k 0 ≤ 25 := by
  rcases Nat.lt_or_ge k l.length with h1 | h1
  · have := h _ (getD_mem l k (d := 0) h1); omega
  · rw [List.getD_eq_getElem?_getD, List.getElem?_eq_none h1]; simp
theorem addR_right {m n : Int} (hm : 0 ≤ m ∧ m ≤ 50) (hn : 0 ≤ n ∧ n ≤ 50) {a b : RowD} (ha : smallR a) (hb : smallR b) (N : Nat) : rightB (addR m n a b N) N = true := by
  have h1 := mul_small hm.1 (by omega) ha.1 ha.2.1
  have h2 := mul_small hn.1 (by omega) hb.1 hb.2.1
  refine Bool.and_eq_true_iff.2 ⟨Bool.and_eq_true_iff.2 ⟨decide_eq_true (by simp [addR, addUp_len]), List.all_eq_true.2 fun x hx => ?_⟩, decide_eq_true (by show _ ≤ m * a.most + n * b.most ∧ m * a.most + n * b.most ≤ _; omega)⟩
  obtain ⟨i, -, rfl⟩ := List.mem_map.1 hx
  have h3 := getD_small ha.2.2 i
  have h4 := getD_small hb.2.2 i
  have h5 := mul_small hm.1 (by omega) h3.1 h3.2
  have h6 := mul_small hn.1 (by omega) h4.1 h4.2
  show bndB _ = true
  simp only [bndB, decide_eq_true_eq]
  omega
theorem greatR_right {m : Int} (hm : 0 ≤ m ∧ m ≤ 50) {a : RowD} (ha : smallR a) (N : Nat) : rightB (greatR m a N) N = true := by
  have h1 := mul_small (m := m + 1) (by omega) (by omega) ha.1 ha.2.1
  refine Bool.and_eq_true_iff.2 ⟨Bool.and_eq_true_iff.2 ⟨decide_eq_true (by simp [greatR, greatUp_len]), List.all_eq_true.2 fun x hx => ?_⟩, decide_eq_true (by show _ ≤ (m + 1) * a.most ∧ (m + 1) * a.most ≤ _; omega)⟩
  obtain ⟨i, -, rfl⟩ := List.mem_map.1 hx
  have h3 := getD_small ha.2.2 i
  have h5 := mul_small (m := m + 1) (by omega) (by omega) h3.1 h3.2
  show bndB _ = true
  simp only [bndB, decide_eq_true_eq]
  omega
theorem four_valid {vars : Int} {l : List RowD} {g : List Int} (h : validB ⟨vars, l, g⟩ = true) {a b c d : RowD} (ha : rightB a vars = true) (hb : rightB b vars = true) (hc : rightB c vars = true) (hd : rightB d vars = true) : validB ⟨vars, [a, b, c, d], g⟩ = true := by
  simp only [validB, Bool.and_eq_true] at h ⊢
  obtain ⟨⟨⟨⟨h1, -⟩, -⟩, h4⟩, h5⟩ := h
  exact ⟨⟨⟨⟨h1, decide_eq_true (by simp)⟩, by simp [rowsB, ha, hb, hc, hd]⟩, h4⟩, h5⟩
theorem broken_mem (l : List RowD) (s k : Nat) (i : Nat) : memB (brokenUp l s k) i = (decide (i < k) && !keptB (l.getD i row0) s) := by
  rw [Bool.eq_iff_iff]
  simp only [memB, List.any_eq_true, brokenUp, List.mem_map, List.mem_filter, List.mem_range, Bool.and_eq_true, decide_eq_true_eq, beq_iff_eq, Bool.not_eq_true']
  constructor
  · rintro ⟨x, ⟨j, ⟨h1, h2⟩, rfl⟩, h3⟩
    have : j = i := by omega
    subst this; exact ⟨h1, h2⟩
  · rintro ⟨h1, h2⟩
    exact ⟨_, ⟨i, ⟨h1, h2⟩, rfl⟩, rfl⟩
theorem broken_low {l : List RowD} {s k q : Nat} (hq : q < (brokenUp l s k).length) : ∃ t : Nat, t < k ∧ (brokenUp l s k).getD q 0 = t := by
  obtain ⟨j, hj, e⟩ := List.mem_map.1 (getD_mem (brokenUp l s k) q (d := 0) hq)
  exact ⟨j, List.mem_range.1 (List.mem_filter.1 hj).1, e.symm⟩
theorem memB_take {l : List Int} {q : Nat} (hq : q < l.length) (x : Int) : memB (l.take (q + 1)) x = (memB (l.take q) x || (l.getD q 0 == x)) := by
  rw [take_succ' l q 0 hq]; simp [memB]
end Go.Proofs.Ytppfdjjhloaopaa
namespace Go.Proofs.Ytppfdjjhloaopaa
open Go.RowKit Go.Maps

theorem ints_setOf : ∀ (ks : List Int) (es : List (Lit × DataW Unit)), (∀ p ∈ es, ∃ x, p.1 = Lit.int .i64 x) → ∃ es' : List (Lit × DataW Unit), (ks.map (Lit.int .i64)).foldl (fun (m : DataW Unit) (x : Lit) => m.put x (.lit (.bool true))) (DataW.map es) = DataW.map es' ∧ ∀ p ∈ es', ∃ x, p.1 = Lit.int .i64 x
  | [], es, h => ⟨es, rfl, h⟩
  | k :: ks, es, h => ints_setOf ks _ (fun p hp => by
    rcases List.mem_cons.1 ((WideShapes.insert_perm _ _).mem_iff.1 hp) with rfl | hp'
    · exact ⟨k, rfl⟩
    · exact h p (List.mem_filter.1 hp').1)
theorem keyed_spec (ks : List Int) : (keyed ks).Pairwise (· < ·) ∧ ∀ x, x ∈ keyed ks ↔ x ∈ ks := by
  have hkl : ∀ x ∈ ks.map (Lit.int .i64), WideAt.IsKeyLit x := fun x hx => by obtain ⟨y, -, rfl⟩ := List.mem_map.1 hx; simp [WideAt.IsKeyLit]
  obtain ⟨es, he, hp⟩ := tidy_setOf (H := Unit) (.lit (.bool true)) _ hkl
  obtain ⟨es', he', hi⟩ := ints_setOf ks [] (by simp)
  have e1 : es' = es := by
    have : DataW.map es' = DataW.map es := he'.symm.trans he
    cases this; rfl
  subst e1
  have hk : keysD ks = .map es' := he
  have hnd : (intKeys (keysD ks)).Nodup := by
    rw [hk]
    refine List.pairwise_map.2 (hp.imp_of_mem fun {p q} hp' hq' hne e => hne ?_)
    obtain ⟨a, ha⟩ := hi p hp'
    obtain ⟨b, hb⟩ := hi q hq'
    rw [ha, hb] at e ⊢
    exact congrArg _ e
  have hm : ∀ x, x ∈ intKeys (keysD ks) ↔ x ∈ ks := fun x => by
    have h1 := has_setOf (H := Unit) (.lit (.bool true)) (.int .i64 x) _ hkl
    have h2 : has (keysD ks) (.int .i64 x) = true ↔ x ∈ intKeys (keysD ks) := by
      rw [hk, has_eq, List.any_eq_true]
      show _ ↔ x ∈ es'.map fun p => Go.intOf p.1
      rw [List.mem_map]
      constructor
      · rintro ⟨p, hp', hs⟩
        obtain ⟨a, ha⟩ := hi p hp'
        rw [ha] at hs
        exact ⟨p, hp', by rw [ha]; simpa [Lit.sameKey, Go.intOf] using hs⟩
      · rintro ⟨p, hp', rfl⟩
        obtain ⟨a, ha⟩ := hi p hp'
        exact ⟨p, hp', by rw [ha]; simp [Lit.sameKey, Go.intOf]⟩
    rw [← h2]
    show has (setOf _ _) _ = true ↔ _
    rw [h1, List.any_eq_true]
    constructor
    · rintro ⟨p, hp', hs⟩
      obtain ⟨a, ha, rfl⟩ := List.mem_map.1 hp'
      have : a = x := by simpa [Lit.sameKey] using hs
      rwa [← this]
    · intro hx
      exact ⟨_, List.mem_map.2 ⟨x, hx, rfl⟩, by simp [Lit.sameKey]⟩
  have hperm := List.mergeSort_perm (intKeys (keysD ks)) leI
  refine ⟨?_, fun x => by rw [← hm x]; exact hperm.mem_iff⟩
  have tr : ∀ a b c : Int, leI a b = true → leI b c = true → leI a c = true := fun a b c h1 h2 => by simp only [leI, decide_eq_true_eq] at *; exact Int.le_trans h1 h2
  have tot : ∀ a b : Int, (leI a b || leI b a) = true := fun a b => by simp only [leI, Bool.or_eq_true, decide_eq_true_eq]; exact Int.le_total a b
  have h1 := List.pairwise_mergeSort tr tot (intKeys (keysD ks))
  have h2 : (keyed ks).Nodup := hperm.nodup_iff.2 hnd
  exact (h1.and h2).imp fun {a b} h => by
    have h3 : a ≤ b := by simpa [leI] using h.1
    have h4 : a ≠ b := h.2
    omega
end Go.Proofs.Ytppfdjjhloaopaa
namespace Go.Proofs.Ytppfdjjhloaopaa
open Go.RowKit

/-- how many of an ascending list are below k -/
def atF (U : List Int) (k : Nat) : Nat := U.countP fun u : Int => decide (u < (k : Int))
theorem atF_asc : ∀ (U : List Int) (k : Nat), U.Pairwise (· < ·) → (∀ j, j < atF U k → U.getD j 0 < k) ∧ (∀ j, atF U k ≤ j → j < U.length → (k : Int) ≤ U.getD j 0)
  | [], k, _ => ⟨fun j hj => by simp [atF] at hj, fun j _ hj => by simp at hj⟩
  | u :: t, k, h => by
    obtain ⟨h1, h2⟩ := List.pairwise_cons.1 h
    obtain ⟨i1, i2⟩ := atF_asc t k h2
    by_cases hu : u < k
    · have e : atF (u :: t) k = atF t k + 1 := by simp [atF, hu]
      rw [e]
      refine ⟨fun j hj => ?_, fun j hj hl => ?_⟩
      · cases j with
        | zero => simpa using hu
        | succ j => simpa using i1 j (by omega)
      · cases j with
        | zero => omega
        | succ j => simpa using i2 j (by omega) (by simpa using hl)
    · have h0 : atF t k = 0 := List.countP_eq_zero.2 fun x hx => by have := h1 x hx; simp; omega
      have e : atF (u :: t) k = 0 := by simp only [atF, List.countP_cons] at h0 ⊢; simp [hu, h0]
      rw [e]
      refine ⟨fun j hj => by omega, fun j _ hl => ?_⟩
      cases j with
      | zero => simp; omega
      | succ j => simpa using i2 j (by omega) (by simpa using hl)
theorem atF_le (U : List Int) (k : Nat) : atF U k ≤ U.length := List.countP_le_length
theorem atF_zero {U : List Int} (h : ∀ u ∈ U, 0 ≤ u) : atF U 0 = 0 := List.countP_eq_zero.2 fun x hx => by have := h x hx; simp; omega
theorem atF_end {U : List Int} {n : Nat} (h : ∀ u ∈ U, u < n) : atF U n = U.length := List.countP_eq_length.2 fun x hx => by simpa using h x hx
theorem asc_lt {U : List Int} (h : U.Pairwise (· < ·)) {i j : Nat} (hij : i < j) (hj : j < U.length) : U.getD i 0 < U.getD j 0 := by
  have := List.pairwise_iff_getElem.1 h i j (by omega) hj hij
  rw [List.getD_eq_getElem?_getD, List.getD_eq_getElem?_getD, List.getElem?_eq_getElem (by omega), List.getElem?_eq_getElem hj]; exact this
theorem memB_iff (l : List Int) (x : Int) : memB l x = true ↔ x ∈ l := by
  unfold memB; rw [List.any_eq_true]
  exact ⟨fun ⟨y, h1, h2⟩ => by have : y = x := by simpa using h2
                               rwa [← this], fun h => ⟨x, h, by simp⟩⟩
theorem at_mem {U : List Int} (h : U.Pairwise (· < ·)) (k : Nat) : memB U k = decide (atF U k < U.length ∧ U.getD (atF U k) 0 = k) := by
  obtain ⟨h1, h2⟩ := atF_asc U k h
  rw [Bool.eq_iff_iff, decide_eq_true_eq]
  constructor
  · intro hm
    obtain ⟨y, hy, e⟩ := List.any_eq_true.1 hm
    obtain ⟨j, hj, rfl⟩ := List.getElem_of_mem hy
    have e : U.getD j 0 = k := by rw [List.getD_eq_getElem?_getD, List.getElem?_eq_getElem hj]; simpa using e
    have h3 : atF U k ≤ j := by
      refine Decidable.byContradiction fun hn => ?_
      have := h1 j (by omega); omega
    refine ⟨by omega, ?_⟩
    rcases Nat.lt_or_ge (atF U k) j with h4 | h4
    · have h5 := asc_lt h h4 hj
      have h6 := h2 (atF U k) (Nat.le_refl _) (by omega)
      omega
    · have : atF U k = j := by omega
      rw [this]; exact e
  · rintro ⟨hl, e⟩
    rw [memB_iff, ← e]; exact getD_mem U _ hl
theorem atF_succ {U : List Int} (h : U.Pairwise (· < ·)) (k : Nat) : atF U (k + 1) = atF U k + (if memB U k then 1 else 0) := by
  induction U with
  | nil => simp [atF, memB]
  | cons u t ih =>
    obtain ⟨h1, h2⟩ := List.pairwise_cons.1 h
    have i := ih h2
    have e1 : atF (u :: t) (k + 1) = atF t (k + 1) + (if u < ((k + 1 : Nat) : Int) then 1 else 0) := by simp only [atF, List.countP_cons, decide_eq_true_eq]
    have e2 : atF (u :: t) k = atF t k + (if u < (k : Int) then 1 else 0) := by simp only [atF, List.countP_cons, decide_eq_true_eq]
    have e3 : memB (u :: t) k = ((u == (k : Int)) || memB t k) := by simp [memB]
    rw [e1, e2, e3, i]
    by_cases hu : u = (k : Int)
    · have hm : memB t k = false := by
        rw [← Bool.not_eq_true, memB_iff]; intro hm
        have := h1 _ hm
        omega
      have c1 : u < ((k + 1 : Nat) : Int) := by omega
      have c2 : ¬ u < (k : Int) := by omega
      have c3 : (u == (k : Int)) = true := by simpa using hu
      rw [hm, if_pos c1, if_neg c2, c3]; simp
    · have e4 : (u == (k : Int)) = false := by simpa using hu
      rw [e4, Bool.false_or]
      by_cases h5 : u < (k : Int)
      · have c1 : u < ((k + 1 : Nat) : Int) := by omega
        rw [if_pos c1, if_pos h5]; omega
      · have c1 : ¬ u < ((k + 1 : Nat) : Int) := by omega
        rw [if_neg c1, if_neg h5]; omega
/-- the rows below k that are not used -/
def outF (U : List Int) (k : Nat) : List Int := ((List.range k).filter fun i : Nat => !memB U (i : Int)).map fun i : Nat => (i : Int)
theorem outF_yes {U : List Int} {k : Nat} (h : memB U k = true) : outF U (k + 1) = outF U k := by simp [outF, List.range_succ, List.filter_append, h]
theorem outF_no {U : List Int} {k : Nat} (h : memB U k = false) : outF U (k + 1) = outF U k ++ [(k : Int)] := by simp [outF, List.range_succ, List.filter_append, h]
theorem outF_le (U : List Int) (k : Nat) : (outF U k).length ≤ k := by
  unfold outF; rw [List.length_map]
  exact Nat.le_trans (List.length_filter_le _ _) (by simp)
theorem outF_asc (U : List Int) (k : Nat) : (outF U k).Pairwise (· < ·) := by
  unfold outF
  refine List.pairwise_map.2 ((List.pairwise_lt_range.filter _).imp fun h => by omega)
theorem outF_mem (U : List Int) (k : Nat) (x : Int) : x ∈ outF U k ↔ ∃ i : Nat, i < k ∧ memB U i = false ∧ x = i := by
  unfold outF
  rw [List.mem_map]
  constructor
  · rintro ⟨i, hi, rfl⟩
    obtain ⟨h1, h2⟩ := List.mem_filter.1 hi
    exact ⟨i, List.mem_range.1 h1, by simpa using h2, rfl⟩
  · rintro ⟨i, h1, h2, rfl⟩
    exact ⟨i, List.mem_filter.2 ⟨List.mem_range.2 h1, by simpa using h2⟩, rfl⟩
theorem memB_out {U : List Int} {k i : Nat} (h : i < k) : memB (outF U k) i = !memB U i := by
  rw [Bool.eq_iff_iff, memB_iff, outF_mem]
  constructor
  · rintro ⟨j, h1, h2, e⟩
    have : i = j := by omega
    subst this; simp [h2]
  · intro h2
    exact ⟨i, h, by simpa using h2, rfl⟩
theorem okUp_of {l : List Int} {n : Nat} (ha : l.Pairwise (· < ·)) (hb : ∀ x ∈ l, 0 ≤ x ∧ x < n) : okUp l n l.length = true := by
  refine List.all_eq_true.2 fun i hi => ?_
  have hi' := List.mem_range.1 hi
  have h1 := hb _ (getD_mem l i (d := 0) hi')
  unfold okAt
  simp only [isInB, Bool.and_eq_true, Bool.or_eq_true, decide_eq_true_eq]
  refine ⟨⟨h1.1, by omega⟩, ?_⟩
  by_cases h0 : i = 0
  · exact .inl h0
  · exact .inr (asc_lt ha (by omega) hi')
/-- the rows that are kept are the used ones -/
def keptIdx (U : List Int) (m : Nat) : List Nat := (List.range m).filter fun i : Nat => memB U (i : Int)
theorem kept_out (l : List RowD) (U : List Int) (m : Nat) : keptUp l (outF U m) m = (keptIdx U m).map fun i => l.getD i row0 := by
  unfold keptUp keptIdx
  congr 1
  refine List.filter_congr fun i hi => ?_
  rw [memB_out (List.mem_range.1 hi), Bool.not_not]
theorem keptIdx_len {U : List Int} {m : Nat} (ha : U.Pairwise (· < ·)) (hb : ∀ x ∈ U, 0 ≤ x ∧ x < m) : (keptIdx U m).length = U.length := by
  have h1 : ((keptIdx U m).map fun i : Nat => (i : Int)).Perm U := by
    refine (List.perm_ext_iff_of_nodup ?_ (ha.imp fun h => by omega)).2 fun x => ?_
    · exact List.pairwise_map.2 ((List.pairwise_lt_range.filter _).imp fun h => by omega)
    · rw [List.mem_map]
      constructor
      · rintro ⟨i, hi, rfl⟩
        exact (memB_iff _ _).1 (List.mem_filter.1 hi).2
      · intro hx
        obtain ⟨h2, h3⟩ := hb x hx
        refine ⟨x.toNat, List.mem_filter.2 ⟨List.mem_range.2 (by omega), ?_⟩, by omega⟩
        rw [memB_iff, Int.toNat_of_nonneg h2]; exact hx
  have := h1.length_eq
  simpa using this
theorem reach_ok (rows : List RowD) (l : List StepD) : ∀ (f : Nat) (a : Int) (dec : List Int), refutesF rows l f a dec = true → ∀ i ∈ reachF l f a, 0 ≤ i ∧ i < rows.length
  | 0, _, _, h, _, _ => by simp [refutesF] at h
  | f + 1, a, dec, h, i, hi => by
    simp only [refutesF] at h
    simp only [reachF] at hi
    split at h
    · split at h
      · rename_i hv
        rw [if_pos hv] at hi
        obtain ⟨w, hw, rfl⟩ := List.mem_map.1 hi
        obtain ⟨j, hj, rfl⟩ := List.getElem_of_mem hw
        simp only [leafB, Bool.and_eq_true] at h
        have := okWts_at h.1.2 hj
        have e5 : (l.getD a.toNat st0).wts.getD j wt0 = (l.getD a.toNat st0).wts[j] := by rw [List.getD_eq_getElem?_getD, List.getElem?_eq_getElem hj]; rfl
        rw [e5] at this
        exact ⟨this.1, by have := this.2.1; omega⟩
      · rename_i hv
        rw [if_neg hv] at hi
        simp only [Bool.and_eq_true] at h
        rcases List.mem_append.1 hi with h1 | h1
        · exact reach_ok rows l f _ _ h.1.2 i h1
        · exact reach_ok rows l f _ _ h.2 i h1
    · cases h
end Go.Proofs.Ytppfdjjhloaopaa
namespace Go.Proofs.Ytppfdjjhloaopaa
open Go.RowKit

def agR (r : RowD) : RowD := ⟨0, 0, 0, 0, r.coef.map fun x => -x, -r.most - 1⟩
def usX (n : Nat) (rows : List RowD) (gain : List Int) (r : RowD) : ProgD := ⟨n, rows ++ [r, agR r], gain⟩
def shortL (m : Nat) : List StepD := [⟨-1, 0, 0, [((m : Int), 1), ((m + 1 : Nat), 1)]⟩]
theorem ag_right {r : RowD} {n : Nat} (hr : rightB r n = true) (hm : -4 ≤ r.most ∧ r.most ≤ 25) : rightB (agR r) n = true := by
  simp only [rightB, Bool.and_eq_true, lenB, isInB, decide_eq_true_eq] at hr ⊢
  obtain ⟨⟨h1, h2⟩, h3⟩ := hr
  refine ⟨⟨by show ((r.coef.map _).length : Int) = n; rw [List.length_map]; exact h1, coefsB_neg h2⟩, ?_⟩
  show _ ≤ -r.most - 1 ∧ -r.most - 1 ≤ _
  omega
theorem us_valid {n : Nat} {rows : List RowD} {gain : List Int} {r : RowD} (hV : validB ⟨n, rows, gain⟩ = true) (hl : rows.length ≤ 8) (hr : rightB r n = true) (hm : -4 ≤ r.most ∧ r.most ≤ 25) : validB (usX n rows gain r) = true := by
  simp only [validB, Bool.and_eq_true] at hV
  obtain ⟨⟨⟨⟨a1, a2⟩, a3⟩, a4⟩, a5⟩ := hV
  show validB ⟨n, rows ++ [r, agR r], gain⟩ = true
  simp only [validB, Bool.and_eq_true]
  refine ⟨⟨⟨⟨a1, by simp only [fewB, decide_eq_true_eq, List.length_append, List.length_cons, List.length_nil]; omega⟩, ?_⟩, a4⟩, a5⟩
  show rowsB (rows ++ [r, agR r]) n = true
  unfold rowsB at a3 ⊢
  rw [List.all_append]
  exact Bool.and_eq_true_iff.2 ⟨a3, by simp [hr, ag_right hr hm]⟩
theorem us_none (n : Nat) (rows : List RowD) (gain : List Int) (r : RowD) (s : Nat) : keptAll (usX n rows gain r).rows s = false := by
  rw [← Bool.not_eq_true]
  intro h
  have h1 := List.all_eq_true.1 h r (by simp [usX])
  have h2 := List.all_eq_true.1 h (agR r) (by simp [usX])
  simp only [keptB, decide_eq_true_eq] at h1 h2
  have h3 : chosenF (agR r).coef s = -chosenF r.coef s := chosenF_neg _ _
  have h4 : (agR r).most = -r.most - 1 := rfl
  omega
theorem us_found {n : Nat} {rows : List RowD} {gain : List Int} {r : RowD} : (bestF (usX n rows gain r)).found = false := by
  rw [← Bool.not_eq_true]
  intro h
  have := ((bestF_spec (p := usX n rows gain r) (n := n) rfl).2 h).2.1
  rw [us_none] at this; cases this
theorem minK_zero {rows : List RowD} {ws : List (Int × Int)} {dec : List Int} : ∀ m : Nat, (∀ k, k < m → sumW rows ws k ws.length = 0) → minK rows ws dec m = 0
  | 0, _ => rfl
  | m + 1, h => by
    simp only [minK]
    rw [minK_zero m (fun k hk => h k (by omega)), h m (by omega)]; simp
theorem us_get (rows : List RowD) (r : RowD) : (rows ++ [r, agR r]).getD rows.length row0 = r ∧ (rows ++ [r, agR r]).getD (rows.length + 1) row0 = agR r := by
  refine ⟨?_, ?_⟩
  · rw [getD_app_right _ _ _ _ (Nat.le_refl _), Nat.sub_self]; rfl
  · rw [getD_app_right _ _ _ _ (by omega), Nat.add_sub_cancel_left]; rfl
theorem us_short {n : Nat} {rows : List RowD} {gain : List Int} {r : RowD} (hV : validB (usX n rows gain r) = true) : refB (usX n rows gain r) (shortL rows.length) = true := by
  have h := check_iff (rows := (usX n rows gain r).rows) hV (l := shortL rows.length) (by show 1 ≤ 8192; omega) (by show 0 < 1; omega) (F := 1) (by show 1 ≤ 1; omega)
  obtain ⟨g1, g2⟩ := us_get rows r
  have e1 : sumW (rows ++ [r, agR r]) [((rows.length : Nat), 1), ((rows.length + 1 : Nat), 1)] = fun k i => sumW (rows ++ [r, agR r]) [((rows.length : Nat), 1), ((rows.length + 1 : Nat), 1)] k i := rfl
  have hs : ∀ k, sumW (rows ++ [r, agR r]) [((rows.length : Nat), 1), ((rows.length + 1 : Nat), 1)] k 2 = 0 := fun k => by
    simp only [sumW]
    show (0 : Int) + 1 * ((rows ++ [r, agR r]).getD ((rows.length : Int)).toNat row0).coef.getD k 0 + 1 * ((rows ++ [r, agR r]).getD (((rows.length + 1 : Nat) : Int)).toNat row0).coef.getD k 0 = 0
    rw [Int.toNat_natCast, Int.toNat_natCast, g1, g2]
    have : (agR r).coef.getD k 0 = -(r.coef.getD k 0) := by
      show (r.coef.map fun x => -x).getD k 0 = _
      rw [List.getD_eq_getElem?_getD, List.getD_eq_getElem?_getD, List.getElem?_map]
      cases r.coef[k]? <;> simp
    rw [this]; omega
  have hmo : mostW (rows ++ [r, agR r]) [((rows.length : Nat), 1), ((rows.length + 1 : Nat), 1)] 2 = -1 := by
    simp only [mostW]
    show (0 : Int) + 1 * ((rows ++ [r, agR r]).getD ((rows.length : Int)).toNat row0).most + 1 * ((rows ++ [r, agR r]).getD (((rows.length + 1 : Nat) : Int)).toNat row0).most = -1
    rw [Int.toNat_natCast, Int.toNat_natCast, g1, g2]
    show 0 + 1 * r.most + 1 * (-r.most - 1) = -1
    omega
  have hL : refutesF (usX n rows gain r).rows (shortL rows.length) 1 0 (decF (usX n rows gain r).vars.toNat 0 0) = true := by
    simp only [refutesF]
    rw [if_pos ⟨by omega, by show (0 : Int) < 1; omega⟩]
    show (if ((-1 : Int)) = -1 then leafB (rows ++ [r, agR r]) ⟨-1, 0, 0, [((rows.length : Nat), 1), ((rows.length + 1 : Nat), 1)]⟩ (decF n 0 0) else _) = true
    rw [if_pos rfl]
    unfold leafB
    simp only [Bool.and_eq_true, decide_eq_true_eq]
    refine ⟨⟨⟨⟨⟨trivial, trivial⟩, by simp⟩, by simp⟩, ?_⟩, ?_⟩
    · refine List.all_eq_true.2 fun i hi => ?_
      have hi' : i < 2 := List.mem_range.1 hi
      have hlen : (rows ++ [r, agR r]).length = rows.length + 2 := by simp
      rw [hlen]
      match i, hi' with
      | 0, _ => simp only [okWt, Bool.and_eq_true, Bool.or_eq_true, decide_eq_true_eq]; refine ⟨⟨⟨⟨?_, ?_⟩, ?_⟩, ?_⟩, .inl trivial⟩ <;> (simp; try omega)
      | 1, _ => simp only [okWt, Bool.and_eq_true, Bool.or_eq_true, decide_eq_true_eq]; refine ⟨⟨⟨⟨?_, ?_⟩, ?_⟩, ?_⟩, .inr ?_⟩ <;> (simp; try omega)
    · show mostW _ _ 2 < minK _ _ _ _
      rw [hmo, minK_zero _ (fun k _ => hs k)]; decide
  rw [hL] at h
  unfold refB wrongP
  exact h
theorem used_spec {X : ProgD} {l : List StepD} (h : wrongP X l = -1) : (usedP X l).Pairwise (· < ·) ∧ (∀ u ∈ usedP X l, 0 ≤ u ∧ u < X.rows.length) ∧
    ∀ s, ¬ (∀ u ∈ usedP X l, keptB (X.rows.getD u.toNat row0) s = true) := by
  obtain ⟨h1, h2⟩ := keyed_spec (reachF l l.length 0)
  obtain ⟨hV, hl, h0⟩ := check_parts h
  have h3 := check_iff (rows := X.rows) hV hl h0 (Nat.le_refl _)
  have hR : refutesF X.rows l l.length 0 (decF X.vars.toNat 0 0) = true := by rw [← h3]; unfold wrongP at h; rw [h]; rfl
  unfold usedP
  rw [h, if_pos rfl]
  refine ⟨h1, fun u hu => reach_ok _ _ _ _ _ hR u ((h2 u).1 hu), fun s hk => ?_⟩
  have := refutes_used X.rows l X.vars.toNat s (rows_len hV) l.length 0 _ (decF_len _ _ _) (fits_none _ _) (fun i hi => hk i ((h2 i).2 hi))
  rw [this] at hR; cases hR
theorem without_used {X : ProgD} {U : List Int} (hV : validB X = true) (ha : U.Pairwise (· < ·)) (hb : ∀ u ∈ U, 0 ≤ u ∧ u < X.rows.length) (hn : ∀ s, ¬ (∀ u ∈ U, keptB (X.rows.getD u.toNat row0) s = true)) :
    errW X (outF U X.rows.length) = 0 ∧ ∃ rows' : List RowD, withoutF X (outF U X.rows.length) = ⟨X.vars, rows', X.gain⟩ ∧ rows'.length = U.length ∧ allF ⟨X.vars, rows', X.gain⟩ = [] ∧ errF ⟨X.vars, rows', X.gain⟩ = 0 := by
  have hok : okW X (outF U X.rows.length) = true := by
    unfold okW
    rw [hV, okUp_of (outF_asc _ _) (fun x hx => by obtain ⟨i, h1, -, rfl⟩ := (outF_mem _ _ _).1 hx; omega)]; rfl
  refine ⟨by unfold errW; rw [hok]; rfl, _, by unfold withoutF; rw [if_pos hok], ?_, ?_⟩
  · rw [kept_out, List.length_map, keptIdx_len ha hb]
  · have hv : validB ⟨X.vars, keptUp X.rows (outF U X.rows.length) X.rows.length, X.gain⟩ = true := by
      simp only [validB, Bool.and_eq_true] at hV ⊢
      obtain ⟨⟨⟨⟨a1, a2⟩, a3⟩, a4⟩, a5⟩ := hV
      refine ⟨⟨⟨⟨a1, ?_⟩, ?_⟩, a4⟩, a5⟩
      · have := keptUp_le X.rows (outF U X.rows.length) X.rows.length
        simp only [fewB, decide_eq_true_eq] at a2 ⊢; omega
      · refine List.all_eq_true.2 fun r hr => ?_
        rw [kept_out] at hr
        obtain ⟨i, hi, rfl⟩ := List.mem_map.1 hr
        exact List.all_eq_true.1 a3 _ (getD_mem _ _ (List.mem_range.1 (List.mem_filter.1 hi).1))
    refine ⟨?_, by unfold errF; rw [hv]; rfl⟩
    unfold allF
    rw [hv, if_pos rfl]
    have hg : goodF ⟨X.vars, keptUp X.rows (outF U X.rows.length) X.rows.length, X.gain⟩ = [] := by
      refine List.filter_eq_nil_iff.2 fun s _ => ?_
      intro hk
      refine hn s fun u hu => ?_
      obtain ⟨h1, h2⟩ := hb u hu
      have hk' : keptAll (keptUp X.rows (outF U X.rows.length) X.rows.length) s = true := hk
      refine List.all_eq_true.1 hk' _ ?_
      rw [kept_out]
      exact List.mem_map.2 ⟨u.toNat, List.mem_filter.2 ⟨List.mem_range.2 (by omega), by rw [memB_iff, Int.toNat_of_nonneg h1]; exact hu⟩, rfl⟩
    rw [hg]; rfl
theorem made_one {v : Int} {x : List Tri} {g : List Int} {n : Nat} {rows : List RowD} {gain : List Int} (h : madeF v x g = ⟨n, rows, gain⟩) (t : Tri) : ∃ r : RowD, madeF v [t] g = ⟨n, [r], gain⟩ ∧ smallR r ∧ rightB r n = true := by
  have e1 : madeF v [t] g = ⟨n, [mrow t (mvars v) 0], gain⟩ := by
    unfold madeF at h ⊢
    injection h with h1 h2 h3
    rw [h1, h3]; rfl
  refine ⟨_, e1, made_small v [t] g _ (by rw [e1]; simp), ?_⟩
  have h2 := made_valid v [t] g
  rw [e1] at h2
  simp only [validB, Bool.and_eq_true] at h2
  exact List.all_eq_true.1 h2.1.1.2 _ (by simp)
end Go.Proofs.Ytppfdjjhloaopaa
