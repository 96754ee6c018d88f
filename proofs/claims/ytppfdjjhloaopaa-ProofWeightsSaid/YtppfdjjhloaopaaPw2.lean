/- Walks of the functions of package program that test: each returns what its plain word says, and turns nothing that was there. Conditions: how the arguments lie in memory. -/
import Derived.Test.YtppfdjjhloaopaaBase
import Derived.Test.YtppfdjjhloaopaaPmodA
import Derived.Shelf.Abstract
namespace Go.Proofs.Ytppfdjjhloaopaa
open Go.RowKit

/-- a row as a value, its coefficients' slice being cv -/
abbrev rowV (r : RowD) (cv : Value) : Value := .agg #[.int .i64 r.kind, .int .i64 r.a, .int .i64 r.b, .int .i64 r.at_, cv, .int .i64 r.most]
/-- a row in memory -/
def RowIn (c : Rd) (b o : Nat) (cv : Value) (r : RowD) : Prop :=
  c ⟨b, o, none⟩ = some (.int .i64 r.kind) ∧ c ⟨b, o + 1, none⟩ = some (.int .i64 r.a) ∧ c ⟨b, o + 2, none⟩ = some (.int .i64 r.b) ∧
  c ⟨b, o + 3, none⟩ = some (.int .i64 r.at_) ∧ c ⟨b, o + 4, none⟩ = some cv ∧ c ⟨b, o + 5, none⟩ = some (.int .i64 r.most) ∧ IntsIn c cv r.coef
theorem RowIn.keeps {c c' : Rd} {b o : Nat} {cv : Value} {r : RowD} (hk : Keeps c c') (h : RowIn c b o cv r) : RowIn c' b o cv r :=
  let ⟨h0, h1, h2, h3, h4, h5, h6⟩ := h
  ⟨hk _ _ h0, hk _ _ h1, hk _ _ h2, hk _ _ h3, hk _ _ h4, hk _ _ h5, h6.keeps hk⟩
def RowAt (w : World) (b o : Nat) (cv : Value) (r : RowD) : Prop := RowIn w.cell? b o cv r
theorem RowAt.below {w W : World} {b o : Nat} {cv : Value} {r : RowD} (hb : Below w.heap.size w W) (h : RowAt w b o cv r) :
    W.cell? ⟨b, o, none⟩ = some (.int .i64 r.kind) ∧ W.cell? ⟨b, o + 1, none⟩ = some (.int .i64 r.a) ∧ W.cell? ⟨b, o + 2, none⟩ = some (.int .i64 r.b) ∧
    W.cell? ⟨b, o + 3, none⟩ = some (.int .i64 r.at_) ∧ W.cell? ⟨b, o + 4, none⟩ = some cv ∧ W.cell? ⟨b, o + 5, none⟩ = some (.int .i64 r.most) ∧ IntsAt W cv r.coef := RowIn.keeps (keeps_of_below hb) h
/-- a slice of rows that holds l -/
def RowsIn (c : Rd) (v : Value) (l : List RowD) : Prop :=
  ∃ a n, v = .slice a l.length n ∧ l.length ≤ n ∧ n ≤ 9223372036854775807 ∧ ∀ k, k < l.length → ∃ b o cv, a = some ⟨b, o, none⟩ ∧ RowIn c b (o + k * 6) cv (l.getD k row0)
theorem RowsIn.keeps {c c' : Rd} {v : Value} {l : List RowD} (hk : Keeps c c') (h : RowsIn c v l) : RowsIn c' v l := by
  obtain ⟨a, n, h1, h2, h3, h4⟩ := h
  exact ⟨a, n, h1, h2, h3, fun k hl => let ⟨b, o, cv, e, hc⟩ := h4 k hl; ⟨b, o, cv, e, hc.keeps hk⟩⟩
def RowsAt (w : World) (v : Value) (l : List RowD) : Prop :=
  ∃ a n, v = .slice a l.length n ∧ l.length ≤ n ∧ n ≤ 9223372036854775807 ∧ ∀ k, k < l.length → ∃ b o cv, a = some ⟨b, o, none⟩ ∧ RowAt w b (o + k * 6) cv (l.getD k row0)
theorem RowsAt.to {w : World} {v : Value} {l : List RowD} (h : RowsAt w v l) : RowsIn w.cell? v l := h
theorem RowsIn.to {w : World} {v : Value} {l : List RowD} (h : RowsIn w.cell? v l) : RowsAt w v l := h
theorem RowsAt.below {w W : World} {v : Value} {l : List RowD} (hb : Below w.heap.size w W) (h : RowsAt w v l) : RowsAt W v l := RowsIn.keeps (keeps_of_below hb) h
theorem boxedRow (w : World) (r : RowD) (cv : Value) : ∃ w0, w.alloc (.cells #[.int .i64 r.kind, .int .i64 r.a, .int .i64 r.b, .int .i64 r.at_, cv, .int .i64 r.most] 67) = w0 ∧ Below w.heap.size w w0 ∧
    w0.cell? ⟨w.heap.size, 0, none⟩ = some (.int .i64 r.kind) ∧ w0.cell? ⟨w.heap.size, 1, none⟩ = some (.int .i64 r.a) ∧ w0.cell? ⟨w.heap.size, 2, none⟩ = some (.int .i64 r.b) ∧
    w0.cell? ⟨w.heap.size, 3, none⟩ = some (.int .i64 r.at_) ∧ w0.cell? ⟨w.heap.size, 4, none⟩ = some cv ∧ w0.cell? ⟨w.heap.size, 5, none⟩ = some (.int .i64 r.most) :=
  ⟨_, rfl, (Below.refl _ w).alloc (Nat.le_refl _) _, by simp, by simp, by simp, by simp, by simp, by simp⟩
theorem boxedProg (w : World) (V : Int) (rv gv : Value) : ∃ w0, w.alloc (.cells #[.int .i64 V, rv, gv] 27) = w0 ∧ Below w.heap.size w w0 ∧
    w0.cell? ⟨w.heap.size, 0, none⟩ = some (.int .i64 V) ∧ w0.cell? ⟨w.heap.size, 1, none⟩ = some rv ∧ w0.cell? ⟨w.heap.size, 2, none⟩ = some gv :=
  ⟨_, rfl, (Below.refl _ w).alloc (Nat.le_refl _) _, by simp, by simp, by simp⟩
/-- a program as a value -/
abbrev progV (p : ProgD) (rv gv : Value) : Value := .agg #[.int .i64 p.vars, rv, gv]

set_option maxHeartbeats 400000 in
theorem isIn_any (n lo hi : Int) (w : World) :
    Calls Try.prog 53 #[.int .i64 n, .int .i64 lo, .int .i64 hi] w (Ret (.bool (isInB lo n hi)) w) := by
  by_cases h1 : lo ≤ n
  · by_cases h2 : n ≤ hi
    all_goals
      have h3 := h1
      have h4 := h2
      go_enter Try.func53, Try.ntmps53
      go_wp2
      go_ret
      exact ⟨ret_bool (by simp [isInB]; omega), Below.refl _ _⟩
  · have h3 := h1
    go_enter Try.func53, Try.ntmps53
    go_wp2
    go_ret
    exact ⟨ret_bool (by simp [isInB]; omega), Below.refl _ _⟩
theorem coef1_any (n : Int) (w : World) : Calls Try.prog 89 #[.int .i64 n] w (Ret (.bool (bndB n)) w) := by
  go_enter Try.func89, Try.ntmps89
  go_wp2_with (go_at_call 53; refine (isIn_any _ _ _ _).mono ?_; rintro e w' ⟨rfl, hb⟩)
  go_ret
  exact ⟨rfl, hb⟩
theorem allint1_any (n : Int) (B : Nat) (w : World) (hc : w.cell? ⟨B, 0, none⟩ = some (.func (.func 89) #[] #[])) :
    Calls Try.prog 103 #[.int .i64 n, .pointer (some ⟨B, 0, none⟩)] w (Ret (.bool (!bndB n)) w) := by
  go_enter Try.func103, Try.ntmps103
  go_wp2_with (go_at_call 89; refine (coef1_any _ _).mono ?_; rintro e w' ⟨rfl, hb⟩)
  go_ret
  exact ⟨rfl, hb⟩
set_option maxHeartbeats 400000 in
theorem idxint_any (l : List Int) (v : Value) (B : Nat) (w : World) (hv : IntsAt w v l) (hB : w.cell? ⟨B, 0, none⟩ = some (.func (.func 89) #[] #[])) :
    Calls Try.prog 104 #[v, .func (.func 103) #[] #[.pointer (some ⟨B, 0, none⟩)]] w (Ret (.int .i64 (idxF (fun n => !bndB n) l)) w) := by
  obtain ⟨a, c, rfl, hlc, hcm, hc⟩ := hv
  go_enter Try.func104, Try.ntmps104
  go_wp2
  go_loopw [8] (fun i wr => ∃ (k : Nat), k ≤ l.length ∧ i = .int .i64 k ∧ Hid ((l.take k).any (fun n => !bndB n) = false) ∧ Below w.heap.size w wr) (fun i _ => l.length - (intOf i).toNat)
  case atStart => exact ⟨0, by omega, rfl, rfl, Below.refl _ _⟩
  case round =>
    obtain ⟨k, hk, rfl, HA, hbr⟩ := hrel
    by_cases hlt : k < l.length
    · obtain ⟨b, o, rfl, hck⟩ := hc k hlt
      have HT := hide (any_take_succ (d := 0) (p := fun n => !bndB n) hlt HA.out)
      have HN := hide (idxF_found (d := 0) (fun n => !bndB n) l k hlt HA.out)
      generalize l.getD k 0 = x at hck HT HN
      have ck := keep hbr hck
      have cB := keep hbr hB
      clear hc
      cases hx : bndB x
      · go_wp2_with (go_at_call 103; refine (allint1_any _ _ _ (by assumption)).mono ?_; rintro e w' ⟨rfl, hb⟩)
        go_ret
        exact ⟨ret_int (HN.out (by simp [hx])).symm, below2 hbr hb⟩
      · go_wp2_with (go_at_call 103; refine (allint1_any _ _ _ (by assumption)).mono ?_; rintro e w' ⟨rfl, hb⟩)
        go_roundw
        case rel => exact ⟨k + 1, by omega, by go_num, HT.out (by simp [hx]), below2 hbr hb⟩
        case measure => simp [intOf]; omega
    · go_wp2
      go_ret
      exact ⟨ret_int (idxF_none _ l (any_take_end (by omega) HA.out)).symm, hbr⟩
theorem any_not_all (l : List Int) : l.any (fun n => !bndB n) = !coefsB l := by
  simp [coefsB, List.all_eq_not_any_not]
set_option maxHeartbeats 400000 in
theorem hasint_any (l : List Int) (v : Value) (B : Nat) (w : World) (hv : IntsAt w v l) (hB : w.cell? ⟨B, 0, none⟩ = some (.func (.func 89) #[] #[])) :
    Calls Try.prog 91 #[v, .func (.func 103) #[] #[.pointer (some ⟨B, 0, none⟩)]] w (Ret (.bool (!coefsB l)) w) := by
  have hfin : decide (0 ≤ idxF (fun n => !bndB n) l) = !coefsB l := by rw [idxF_any, any_not_all]
  have HF := hide hfin
  clear hfin
  go_enter Try.func91, Try.ntmps91
  go_wp2_with (go_at_call 104; refine (idxint_any _ _ _ _ hv hB).mono ?_; rintro e w' ⟨rfl, hb⟩)
  go_ret
  exact ⟨ret_bool HF.out, hb⟩
set_option maxHeartbeats 400000 in
theorem allint_any (l : List Int) (v : Value) (w : World) (hv : IntsAt w v l) :
    Calls Try.prog 88 #[v, .func (.func 89) #[] #[]] w (Ret (.bool (coefsB l)) w) := by
  have hw : Below w.heap.size w (w.alloc (.cells #[.func (.func 89) #[] #[]] 110)) := (Below.refl _ w).alloc (Nat.le_refl _) _
  go_enter Try.func88, Try.ntmps88
  go_wp2_with (go_at_call 91; refine (hasint_any l _ _ _ (hv.below hw) (by simp)).mono ?_; rintro e w' ⟨rfl, hb⟩)
  go_ret
  exact ⟨ret_bool (by simp), below2 hw hb⟩
theorem coefs_any (l : List Int) (v : Value) (w : World) (hv : IntsAt w v l) :
    Calls Try.prog 70 #[v] w (Ret (.bool (coefsB l)) w) := by
  go_enter Try.func70, Try.ntmps70
  go_wp2_with (go_at_call 88; refine (allint_any l _ _ hv).mono ?_; rintro e w' ⟨rfl, hb⟩)
  go_ret
  exact ⟨rfl, hb⟩
end Go.Proofs.Ytppfdjjhloaopaa
