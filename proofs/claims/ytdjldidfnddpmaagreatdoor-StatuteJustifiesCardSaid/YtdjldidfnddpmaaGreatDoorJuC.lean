/- Memory of chapter 23: rules; slices.IndexFunc and ContainsFunc at rules, for function values that keep an invariant of the world. Conditions: how the list lies in memory as long as the invariant holds; what a call of the function value returns. -/
import Derived.Test.YtdjldidfnddpmaaGreatDoorStR
import Derived.Test.YtdjldidfnddpmaaGreatDoorJuA
namespace Go.Proofs.YtdjldidfnddpmaaGreatDoor
open Go.RowKit
def natsJ (l : List Nat) : List Int := l.map fun (n : Nat) => (n : Int)
theorem natsJ_len (l : List Nat) : (natsJ l).length = l.length := List.length_map ..
theorem natsJ_get {l : List Nat} {k : Nat} (h : k < l.length) : (natsJ l).getD k 0 = ((l.getD k 0 : Nat) : Int) := by
  unfold natsJ
  rw [List.getD_eq_getElem?_getD, List.getElem?_map, List.getElem?_eq_getElem h, List.getD_eq_getElem?_getD, List.getElem?_eq_getElem h]; rfl
def ruleV (x : RuleD) (nv : Value) : Value := .agg #[nv, .int .i64 x.gives]
/-- a rule in memory -/
def RuleIn (c : Rd) (b o : Nat) (nv : Value) (x : RuleD) : Prop :=
  c ⟨b, o, none⟩ = some nv ∧ c ⟨b, o + 1, none⟩ = some (.int .i64 x.gives) ∧ IntsIn c nv (natsJ x.needs)
theorem RuleIn.keeps {c c' : Rd} {b o : Nat} {nv : Value} {x : RuleD} (hk : Keeps c c') (h : RuleIn c b o nv x) : RuleIn c' b o nv x := ⟨hk _ _ h.1, hk _ _ h.2.1, h.2.2.keeps hk⟩
def RulesIn (c : Rd) (v : Value) (l : List RuleD) : Prop :=
  ∃ a n, v = .slice a l.length n ∧ l.length ≤ n ∧ n ≤ 9223372036854775807 ∧ ∀ i, i < l.length → ∃ b o nv, a = some ⟨b, o, none⟩ ∧ RuleIn c b (o + i * 2) nv (l.getD i rule0)
theorem RulesIn.keeps {c c' : Rd} {v : Value} {l : List RuleD} (hk : Keeps c c') (h : RulesIn c v l) : RulesIn c' v l := by
  obtain ⟨a, n, h1, h2, h3, h4⟩ := h
  exact ⟨a, n, h1, h2, h3, fun i hi => let ⟨b, o, nv, e, hc⟩ := h4 i hi; ⟨b, o, nv, e, hc.keeps hk⟩⟩
theorem RulesIn.nil (c : Rd) : RulesIn c (.slice none 0 0) [] := ⟨none, 0, rfl, Nat.le_refl _, by omega, fun i hi => by simp at hi⟩
theorem RulesIn.below {w W : World} {v : Value} {l : List RuleD} (hb : Below w.heap.size w W) (h : RulesIn w.cell? v l) : RulesIn W.cell? v l := h.keeps (keeps_of_below hb)
def theoV (s d : Nat) (v : Value) : Value := .agg #[.int .i64 s, .int .i64 d, v]
set_option maxHeartbeats 1000000 in
theorem idx_rules (I : World → Prop) (g : Nat) (lb : Array Value) (eg : ∀ args w, (callFunc g args).run Tryz.prog w = .ok (.enter g args) w) (q : RuleD → Bool) (l : List RuleD) (v : Value) (w : World) (hv : ∀ W, I W → RulesIn W.cell? v l) (hI0 : I w) (H : ∀ W, I W → ∀ x ∈ l, ∀ nv, IntsIn W.cell? nv (natsJ x.needs) → Calls Tryz.prog g (#[.agg #[nv, .int .i64 x.gives]] ++ lb) W (RetI I (.bool (q x)))) :
    Calls Tryz.prog 97 #[v, .func (.func g) #[] lb] w (RetI I (.int .i64 (idxF q l))) := by
  obtain ⟨a, c, rfl, hlc, hcm, -⟩ := id (hv w hI0)
  have hlI : (l.length : Int) ≤ 9223372036854775807 := by omega
  have hI := hide hI0
  have HV := hide hv
  have H' := hide H
  clear H
  have H := H'
  clear hv hlc hcm hI0
  go_enter Tryz.func97, Tryz.ntmps97
  go_wp2
  go_loopw [8] (fun i wr => ∃ (k : Nat), k ≤ l.length ∧ i = .int .i64 k ∧ Hid ((l.take k).any q = false) ∧ Hid (I wr)) (fun i _ => l.length - (intOf i).toNat)
  case atStart => exact ⟨0, by omega, rfl, rfl, hI⟩
  case round =>
    obtain ⟨k, hk, rfl, HA, hIr⟩ := hrel
    by_cases hlt : k < l.length
    · have HK1 := hide hlt
      obtain ⟨a', n', e', -, -, hc⟩ := HV.out wr hIr.out
      cases e'
      obtain ⟨b, o, nv, rfl, hck⟩ := hc k hlt
      have HT := hide (any_take_succ (d := rule0) (p := q) hlt HA.out)
      have HN := hide (idxF_found (d := rule0) q l k hlt HA.out)
      have hm := getD_mem l k (d := rule0) hlt
      generalize l.getD k rule0 = x at hck HT HN hm
      obtain ⟨c0, c1, c2⟩ := hck
      obtain ⟨na, nc, rfl, -⟩ := id c2
      have HC := hide (H.out wr hIr.out x hm _ c2)
      clear hc hm c2
      cases hx : q x
      · rw [hx] at HC
        have HT' := hide (HT.out hx)
        clear hx
        go_wp2_with fail
        refine HC.out.mono ?_
        rintro e w' ⟨rfl, hI''⟩
        have hI' := hide hI''
        clear hI''
        go_wp2_with fail
        go_roundw
        case rel => exact ⟨k + 1, by have := HK1.out; omega, by go_num, HT', hI'⟩
        case measure => have := HK1.out; simp [intOf]; omega
      · rw [hx] at HC
        have HN' := hide (HN.out hx)
        clear hx
        go_wp2_with fail
        refine HC.out.mono ?_
        rintro e w' ⟨rfl, hI''⟩
        have hI' := hide hI''
        clear hI''
        go_wp2_with fail
        go_ret
        exact ⟨ret_int HN'.out.symm, hI'.out⟩
    · go_wp2
      go_ret
      exact ⟨ret_int (idxF_none _ l (any_take_end (by omega) HA.out)).symm, hIr.out⟩
set_option maxHeartbeats 1000000 in
theorem has_rules (I : World → Prop) (g : Nat) (lb : Array Value) (eg : ∀ args w, (callFunc g args).run Tryz.prog w = .ok (.enter g args) w) (q : RuleD → Bool) (l : List RuleD) (v : Value) (w : World) (hv : ∀ W, I W → RulesIn W.cell? v l) (hI0 : I w) (H : ∀ W, I W → ∀ x ∈ l, ∀ nv, IntsIn W.cell? nv (natsJ x.needs) → Calls Tryz.prog g (#[.agg #[nv, .int .i64 x.gives]] ++ lb) W (RetI I (.bool (q x)))) :
    Calls Tryz.prog 78 #[v, .func (.func g) #[] lb] w (RetI I (.bool (l.any q))) := by
  have HF := hide (idxF_any q l)
  have HH := hide (idx_rules I g lb eg q l v w hv hI0 H)
  clear H hI0
  go_enter Tryz.func78, Tryz.ntmps78
  go_wp2_with fail
  refine HH.out.mono ?_
  rintro e w' ⟨rfl, hI''⟩
  have hI' := hide hI''
  clear hI''
  go_wp2_with fail
  go_ret
  exact ⟨ret_bool HF.out, hI'.out⟩
end Go.Proofs.YtdjldidfnddpmaaGreatDoor
