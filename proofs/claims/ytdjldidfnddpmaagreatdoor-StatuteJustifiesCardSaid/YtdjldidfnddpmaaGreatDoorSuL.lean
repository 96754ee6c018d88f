/- Walks of package statute: proves. Conditions: valid laws; the indices are in range; who answers and the list lie in memory. -/
import Derived.Test.YtdjldidfnddpmaaGreatDoorSuK
namespace Go.Proofs.YtdjldidfnddpmaaGreatDoor
open Go.RowKit
theorem drop_getD {α : Type} (l : List α) {k : Nat} (d : α) (h : k < l.length) : l.drop k = l.getD k d :: l.drop (k + 1) := by
  rw [List.drop_eq_getElem_cons h, List.getD_eq_getElem?_getD, List.getElem?_eq_getElem h]; rfl
/-- the last number of a list, or -1 -/
def lastN (l : List FindD) : Int := (l.getLast?.map FindD.says).getD (-1)
theorem lastN_take (l : List FindD) {k : Nat} (h : k < l.length) : lastN (l.take (k + 1)) = (l.getD k find0).says := by
  rw [take_succ' l k find0 h]
  unfold lastN
  rw [List.getLast?_append]; rfl
theorem proves_end {c : CodeD} {F C : List Nat} {n : Int} {h : Bool} {l : List FindD} (hs : stepsB c F C l (-1) l = true) : provesB c F C n h l = (decide (0 < l.length) && decide (lastN l = n) && ((l.getLast?.getD find0).holds == h)) := by
  unfold provesB
  rw [hs, Bool.true_and]
  cases hl : l.getLast? with
  | none =>
    have : l = [] := List.getLast?_eq_none_iff.1 hl
    subst this; rfl
  | some x => unfold lastN; rw [hl]; rfl
theorem last_get (l : List FindD) (_h : 0 < l.length) : l.getLast?.getD find0 = l.getD (l.length - 1) find0 := by
  rw [List.getLast?_eq_getElem?, List.getD_eq_getElem?_getD]
set_option maxHeartbeats 2000000 in
theorem proves_any (J M : Nat) (cv rv fv Fv Cv lv : Value) (c : CodeD) (F C : List Nat) (hV : validC c = true) (hFl : ∀ i ∈ F, i < c.facts.length) (hCl : ∀ i ∈ C, i < c.clauses.length) (n : Int) (h : Bool) (l : List FindD)
    (w : World) (ks : List Int) (hJ : JudgeAt w J M cv rv fv Fv Cv c F C ks) (hl : FindsIn w.cell? lv l) : Calls Tryz.prog 29 #[.pointer (some ⟨J, 0, none⟩), .int .i64 n, .bool h, lv] w (Ret (.bool (provesB c F C n h l)) w) := by
  have HIN := hide (fun x lo W => isInS_eq x lo 19 W)
  have HR := hide (fun x W (hb : Below w.heap.size w W) => right_any J M cv rv fv Fv Cv lv c F C hV hFl hCl x l W ks (hJ.later hb) (hl.below hb))
  have HL := hide hl
  obtain ⟨a, m, rfl, hm1, hm2, -⟩ := id hl
  have hlI : (l.length : Int) ≤ 9223372036854775807 := by omega
  have HE := hide (fun hs => proves_end (c := c) (F := F) (C := C) (n := n) (h := h) (l := l) hs)
  have HN : Hid (stepsB c F C l (-1) l = false → provesB c F C n h l = false) := hide (fun hs => by unfold provesB; rw [hs]; rfl)
  generalize provesB c F C n h l = PB at HE HN ⊢
  clear hV hFl hCl hJ hl hm1 hm2
  go_enter Tryz.func29, Tryz.ntmps29
  go_wp2_with fail
  go_loopw [9, 14] (fun last i wr => ∃ (k : Nat) (s : Int), k ≤ l.length ∧ i = .int .i64 k ∧ last = .int .i64 s ∧ -1 ≤ s ∧ s ≤ 19 ∧ Hid (s = lastN (l.take k)) ∧ Hid (stepsB c F C l (-1) l = stepsB c F C l s (l.drop k)) ∧ Below w.heap.size w wr) (fun _ i _ => l.length - (intOf i).toNat)
  case atStart => exact ⟨0, -1, by omega, rfl, rfl, by omega, by omega, hide rfl, hide rfl, Below.refl _ _⟩
  case round =>
    obtain ⟨k, s, hk, rfl, rfl, hs0, hs1, HS, HT, hbr⟩ := hrel
    by_cases hlt : k < l.length
    · have HK1 := hide hlt
      obtain ⟨b, o, rfl, hck⟩ := (HL.out.below hbr).cell hlt
      have HT' := hide (HT.out.trans (by rw [drop_getD l find0 hlt]; rfl : _ = (inB (l.getD k find0).says (s + 1) 19 && rightB c F C (l.getD k find0) l && stepsB c F C l (l.getD k find0).says (l.drop (k + 1)))))
      have HS' := hide (lastN_take l hlt)
      clear HT HS
      generalize l.getD k find0 = x at hck HT' HS'
      have c0 := hck 0 _ rfl
      have c1 := hck 1 _ rfl
      have c2 := hck 2 _ rfl
      have c3 := hck 3 _ rfl
      rw [Nat.add_zero] at c0
      have HC := hide (fun W hb => HR.out x W (below2 hbr hb))
      have HI := hide (fun W => HIN.out x.says (s + 1) W)
      have HBI : Hid (inB x.says (s + 1) 19 = true → 0 ≤ x.says ∧ x.says ≤ 19) := hide (fun h => by simp only [inB, decide_eq_true_eq] at h; omega)
      clear hck
      have HB := hide hbr
      clear hbr
      go_wp2_with fail
      generalize hX1 : World.alloc wr _ = X1
      have zX1 : X1.heap.size = wr.heap.size + 1 := by rw [← hX1]; simp
      have bX1 : Below wr.heap.size wr X1 := by rw [← hX1]; exact bal wr _
      have bX : Blk X1 (wr.heap.size) (findC x) 66 := by rw [← hX1]; exact Blk.newA wr _ (by first | rfl | simp)
      have Xb := bX1
      have Xz := zX1
      clear hX1 zX1 bX1
      have x0 := bX.cell 0 rfl
      have x1 := bX.cell 1 rfl
      have x2 := bX.cell 2 rfl
      have x3 := bX.cell 3 rfl
      have HXb := hide Xb
      have HBX := hide bX
      clear Xb bX c0 c1 c2 c3
      generalize rightB c F C x l = b2 at HT' HC
      generalize inB x.says (s + 1) 19 = b1 at HT' HI HBI
      refine (HI.out _).mono ?_
      rintro e w2 ⟨rfl, hw⟩; obtain rfl := hw.symm
      cases b1
      · go_wp2_with fail
        go_ret
        exact ⟨ret_bool (by rw [HN.out (by rw [HT'.out]; rfl)]), below2 HB.out HXb.out⟩
      · obtain ⟨hx0, hx1⟩ := HBI.out rfl
        go_wp2_with fail
        refine (HC.out _ HXb.out).mono ?_
        rintro e w3 ⟨rfl, hw3⟩
        cases b2
        · go_wp2_with fail
          go_ret
          exact ⟨ret_bool (by rw [HN.out (by rw [HT'.out]; rfl)]), below2 (below2 HB.out HXb.out) hw3⟩
        · have y0 := (HBX.out.later hw3).cell 0 rfl
          have hfin := below2 (below2 HB.out HXb.out) hw3
          clear x0 x1 x2 x3
          go_wp2_with fail
          go_roundw
          case rel => exact ⟨k + 1, x.says, by have := HK1.out; omega, by go_num, rfl, by omega, by omega, hide HS'.out.symm, hide (by rw [HT'.out]; rfl), hfin⟩
          case measure => have := HK1.out; simp [intOf]; omega
    · obtain rfl : k = l.length := by omega
      have HE' := hide (HE.out (by rw [HT.out, List.drop_length]; rfl))
      rw [List.take_length] at HS
      rw [← HS.out] at HE'
      clear HE HN HT HS HIN HR
      by_cases h0 : 0 < l.length
      · have h0I : decide ((0 : Int) < (l.length : Int)) = true := decide_eq_true (by omega)
        obtain ⟨b, o, rfl, hck⟩ := (HL.out.below hbr).cell (i := l.length - 1) (by omega)
        rw [last_get l h0] at HE'
        have e1 : IntKind.i64.wrap ((l.length : Int) - 1) = ((l.length - 1 : Nat) : Int) := by rw [IntWalk.i64_in _ ⟨by omega, by omega⟩]; omega
        have c1 := hck 1 _ rfl
        generalize (l.getD (l.length - 1) find0).holds = b3 at c1 HE'
        clear hck
        have hi1 : l.length - 1 < l.length := by omega
        by_cases e : s = n
        · have e' : (s == n) = true := by simp [e]
          have HEE := hide e
          clear e
          cases b3 <;> cases h
          all_goals
            go_wp2_with fail
            go_ret
            exact ⟨ret_bool (by rw [HE'.out, decide_eq_true HEE.out, decide_eq_true h0]; rfl), hbr⟩
        · have e' : (s == n) = false := by simp [e]
          have HEE := hide e
          clear e
          go_wp2_with fail
          go_ret
          exact ⟨ret_bool (by rw [HE'.out, decide_eq_false HEE.out]; simp), hbr⟩
      · have h0I : decide ((0 : Int) < (l.length : Int)) = false := decide_eq_false (by omega)
        have HEE : Hid (PB = false) := hide (by rw [HE'.out, decide_eq_false h0]; rfl)
        clear HE'
        go_wp2_with fail
        go_ret
        exact ⟨ret_bool (by rw [HEE.out]), hbr⟩
end Go.Proofs.YtdjldidfnddpmaaGreatDoor
