/- Walks of Wrong, Refutes, Rows and Size of package proof. Conditions: how the program and the proof lie in memory. -/
import Derived.Test.YtppfdjjhloaopaaPfD
import Derived.Test.YtppfdjjhloaopaaPfK
import Derived.Test.YtppfdjjhloaopaaPmodK
namespace Go.Proofs.Ytppfdjjhloaopaa
open Go.RowKit

def wrongP (p : ProgD) (l : List StepD) : Int := checkF p p.rows l
def refB (p : ProgD) (l : List StepD) : Bool := decide (wrongP p l = -1)
def usedP (p : ProgD) (l : List StepD) : List Int := if wrongP p l = -1 then keyed (reachF l l.length 0) else []
theorem check_own (p : ProgD) (rv gv : Value) (l : List StepD) (sv : Value) (w : World) (hr : RowsAt w rv p.rows) (hg : IntsAt w gv p.gain) (hs : StepsIn w.cell? sv l) :
    Calls Try.prog 38 #[progV p rv gv, rv, sv] w (CheckQ (wrongP p l) (reachF l l.length 0) w) :=
  check_any p rv gv p.rows rv l sv w hr hg hr hs (fun h => by have := (valid_parts h).2.2.1; omega) rows_ok
theorem wrong_any (p : ProgD) (rv gv : Value) (l : List StepD) (sv : Value) (w : World) (hr : RowsAt w rv p.rows) (hg : IntsAt w gv p.gain) (hs : StepsIn w.cell? sv l) :
    Calls Try.prog 19 #[progV p rv gv, sv] w (Ret (.int .i64 (wrongP p l)) w) := by
  obtain ⟨w0, hw0, hb0, d0, d1, d2⟩ := boxedProg w p.vars rv gv
  rw [← hw0] at hb0 d0 d1 d2
  have hr0 := hr.below hb0
  have hg0 := hg.below hb0
  have hs0 := hs.keeps (keeps_of_below hb0)
  clear hw0
  have HC := hide (check_own p rv gv l sv _ hr0 hg0 hs0)
  clear hr hg hs hr0 hg0 hs0
  obtain ⟨CF, hCF⟩ : ∃ CF, wrongP p l = CF := ⟨_, rfl⟩
  rw [hCF] at HC ⊢
  clear hCF
  go_enter Try.func19, Try.ntmps19
  go_wp2_with (go_at_call 38; refine HC.out.mono ?_; rintro e w1 ⟨hb1, mv, rfl, -, -⟩)
  go_ret
  exact ⟨rfl, below2 hb0 hb1⟩
theorem refutesp_any (p : ProgD) (rv gv : Value) (l : List StepD) (sv : Value) (w : World) (hr : RowsAt w rv p.rows) (hg : IntsAt w gv p.gain) (hs : StepsIn w.cell? sv l) :
    Calls Try.prog 17 #[progV p rv gv, sv] w (Ret (.bool (refB p l)) w) := by
  obtain ⟨w0, hw0, hb0, d0, d1, d2⟩ := boxedProg w p.vars rv gv
  rw [← hw0] at hb0 d0 d1 d2
  have hr0 := hr.below hb0
  have hg0 := hg.below hb0
  have hs0 := hs.keeps (keeps_of_below hb0)
  clear hw0
  have HC := hide (wrong_any p rv gv l sv _ hr0 hg0 hs0)
  have HF : Hid (refB p l = decide (wrongP p l = -1)) := hide rfl
  clear hr hg hs hr0 hg0 hs0
  obtain ⟨CF, hCF⟩ : ∃ CF, wrongP p l = CF := ⟨_, rfl⟩
  rw [hCF] at HC HF
  clear hCF
  go_enter Try.func17, Try.ntmps17
  go_wp2_with (go_at_call 19; refine HC.out.mono ?_; rintro e w1 ⟨rfl, hb1⟩)
  go_ret
  exact ⟨ret_bool (by rw [HF.out]; first | rfl | (by_cases h : CF = -1 <;> simp [h])), below2 hb0 hb1⟩
theorem rowsp_any (p : ProgD) (rv gv : Value) (l : List StepD) (sv : Value) (w : World) (hr : RowsAt w rv p.rows) (hg : IntsAt w gv p.gain) (hs : StepsIn w.cell? sv l) :
    Calls Try.prog 22 #[progV p rv gv, sv] w (RetM (fun c v => IntsIn c v (usedP p l)) w) := by
  obtain ⟨w0, hw0, hb0, d0, d1, d2⟩ := boxedProg w p.vars rv gv
  rw [← hw0] at hb0 d0 d1 d2
  have hr0 := hr.below hb0
  have hg0 := hg.below hb0
  have hs0 := hs.keeps (keeps_of_below hb0)
  clear hw0
  have HC := hide (check_own p rv gv l sv _ hr0 hg0 hs0)
  have HF : Hid (usedP p l = if wrongP p l = -1 then keyed (reachF l l.length 0) else []) := hide rfl
  clear hr hg hs hr0 hg0 hs0
  obtain ⟨CF, hCF⟩ : ∃ CF, wrongP p l = CF := ⟨_, rfl⟩
  rw [hCF] at HC HF
  clear hCF
  generalize reachF l l.length 0 = us at *
  go_enter Try.func22, Try.ntmps22
  go_wp2_with fail
  refine HC.out.mono ?_
  rintro e w1 ⟨hb1, mv, rfl, hY, hN⟩
  have hw1 := below2 hb0 hb1
  by_cases hcf : CF = -1
  · subst hcf
    obtain ⟨b, rfl, hM⟩ := hY rfl
    clear hY hN
    go_wp2_with fail
    refine (keys_any _ _).mono ?_
    rintro e w2 ⟨rfl, hw2⟩
    have hb2 : Below w1.heap.size w1 w2 := by rw [hw2]; exact bal w1 _
    have hk : w2.cell? ⟨w1.heap.size, 0, none⟩ = some (.map (some b)) := by rw [hw2]; simp
    have hM2 := hM.later hb2
    clear hw2
    go_wp2_with fail
    refine (sorted_any us b _ w1.heap.size w2 hk hM2 (by have := hM2.size_le; omega)).mono ?_
    rintro e w3 ⟨v, rfl, hv, hb3⟩
    have hw2 := below2 hw1 hb2
    go_wp2_with fail
    go_ret
    exact ⟨_, rfl, by rw [HF.out]; exact hv.keeps (keeps_frm_le _ hw2.size), below2 hw2 hb3⟩
  · obtain rfl := hN hcf
    have HCN := hide hcf
    clear hY hN hcf
    go_wp2_with fail
    refine (keys_any _ _).mono ?_
    rintro e w2 ⟨rfl, hw2⟩
    have hb2 : Below w1.heap.size w1 w2 := by rw [hw2]; exact bal w1 _
    have hk : w2.cell? ⟨w1.heap.size, 0, none⟩ = some (.map none) := by rw [hw2]; simp
    clear hw2
    go_wp2_with fail
    refine (sortednil_any w1.heap.size w2 hk).mono ?_
    rintro e w3 ⟨rfl, hb3⟩
    have hw2 := below2 hw1 hb2
    go_wp2_with fail
    go_ret
    exact ⟨_, rfl, by rw [HF.out, if_neg HCN.out]; exact IntsIn.nil _, below2 hw2 hb3⟩
/-- how many steps are leaves -/
def leavesN (l : List StepD) (k : Nat) : Nat := (l.take k).countP fun s => decide (s.var = -1)
theorem leavesN_succ {l : List StepD} {k : Nat} (h : k < l.length) : leavesN l (k + 1) = leavesN l k + (if (l.getD k st0).var = -1 then 1 else 0) := by
  unfold leavesN
  rw [List.take_add_one, List.countP_append, List.getElem?_eq_getElem h, List.getD_eq_getElem?_getD, List.getElem?_eq_getElem h]
  simp [List.countP_cons]
theorem leavesN_le (l : List StepD) (k : Nat) : leavesN l k ≤ k := Nat.le_trans List.countP_le_length (by simp; omega)
set_option maxHeartbeats 1000000 in
theorem sizep_any (l : List StepD) (sv : Value) (w : World) (hs : StepsIn w.cell? sv l) :
    Calls Try.prog 15 #[sv] w (Ret (.tuple #[.int .i64 (l.length - leavesN l l.length), .int .i64 (leavesN l l.length)]) w) := by
  obtain ⟨sa, sc, rfl, hsn, hsm, hsk⟩ := id hs
  have hsl : (l.length : Int) ≤ 9223372036854775807 := by have : l.length ≤ sc := hsn; omega
  clear hsn hsm hs
  have HK := hide hsk
  clear hsk
  go_enter Try.func15, Try.ntmps15
  go_wp2_with fail
  go_loopw [4, 9] (fun c i wr => ∃ k : Nat, k ≤ l.length ∧ i = .int .i64 k ∧ c = .int .i64 (leavesN l k) ∧ Below w.heap.size w wr) (fun _ i _ => l.length - (intOf i).toNat)
  case atStart => exact ⟨0, by omega, rfl, rfl, Below.refl _ _⟩
  case round =>
    obtain ⟨k, hk, rfl, rfl, hb⟩ := hrel
    have hle := leavesN_le l k
    by_cases hlt : k < l.length
    · obtain ⟨sb, so, wv, rfl, s0, s1, s2, s3, hW⟩ := HK.out k hlt
      have c0 := keep hb s0
      have c1 := keep hb s1
      have c2 := keep hb s2
      have c3 := keep hb s3
      obtain ⟨wa, wc, rfl, -, -, -⟩ := id hW
      have HS := hide (leavesN_succ hlt)
      clear hW s0 s1 s2 s3
      generalize leavesN l k = c at *
      generalize l.getD k st0 = s at *
      obtain ⟨sv, sn, sy, ws⟩ := s
      dsimp only at *
      by_cases hv : sv = -1
      · subst hv
        rw [if_pos rfl] at HS
        go_wp2_with fail
        exact ⟨⟨k + 1, by omega, by go_num, by rw [HS.out]; go_num, below2 hb (bal wr _)⟩, by simp [intOf]; omega⟩
      · have q0 : (sv == -1) = false := by simpa using hv
        rw [if_neg hv] at HS
        clear hv
        go_wp2_with fail
        exact ⟨⟨k + 1, by omega, by go_num, by rw [HS.out]; rfl, below2 hb (bal wr _)⟩, by simp [intOf]; omega⟩
    · obtain rfl : k = l.length := by omega
      go_wp2_with fail
      go_ret2
      exact ⟨rfl, hb⟩
end Go.Proofs.Ytppfdjjhloaopaa
