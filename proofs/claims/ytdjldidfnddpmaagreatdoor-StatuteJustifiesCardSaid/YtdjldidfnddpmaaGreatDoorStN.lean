/- slices.IndexFunc and slices.ContainsFunc at the element types of chapter 31, for function values that keep an invariant of the world. Conditions: how the list lies in memory as long as the invariant holds; what a call of the function value returns. -/
import Derived.Test.YtdjldidfnddpmaaGreatDoorStM
namespace Go.Proofs.YtdjldidfnddpmaaGreatDoor
open Go.RowKit
/-- a call returns a value, and keeps an invariant of the world -/
def RetI (I : World → Prop) (v : Value) (e : Ending) (w' : World) : Prop := e = .returned v ∧ I w'
/-- a function value asks q of the elements of a list, and keeps an invariant of the world -/
def AskI {α : Type} (I : World → Prop) (g : Nat) (lb : Array Value) (V : α → Value) (q : α → Bool) (l : List α) : Prop := ∀ W, I W → ∀ x ∈ l, Calls Tryz.prog g (#[V x] ++ lb) W (RetI I (.bool (q x)))
set_option maxHeartbeats 1000000 in
theorem idx_ints (I : World → Prop) (g : Nat) (lb : Array Value) (eg : ∀ args w, (callFunc g args).run Tryz.prog w = .ok (.enter g args) w) (q : Int → Bool) (l : List Int) (v : Value) (w : World) (hv : ∀ W, I W → IntsIn W.cell? v l) (hI0 : I w) (H : AskI I g lb (Value.int .i64) q l) :
    Calls Tryz.prog 34 #[v, .func (.func g) #[] lb] w (RetI I (.int .i64 (idxF q l))) := by
  obtain ⟨a, c, rfl, hlc, hcm, -⟩ := id (hv w hI0)
  have hlI : (l.length : Int) ≤ 9223372036854775807 := by omega
  have hI := hide hI0
  have HV := hide hv
  have H' := hide H
  clear H
  have H := H'
  clear hv hlc hcm hI0
  go_enter Tryz.func34, Tryz.ntmps34
  go_wp2
  go_loopw [8] (fun i wr => ∃ (k : Nat), k ≤ l.length ∧ i = .int .i64 k ∧ Hid ((l.take k).any q = false) ∧ Hid (I wr)) (fun i _ => l.length - (intOf i).toNat)
  case atStart => exact ⟨0, by omega, rfl, rfl, hI⟩
  case round =>
    obtain ⟨k, hk, rfl, HA, hIr⟩ := hrel
    by_cases hlt : k < l.length
    · have HK1 := hide hlt
      obtain ⟨a', n', e', -, -, hc⟩ := HV.out wr hIr.out
      cases e'
      obtain ⟨b, o, rfl, hck⟩ := hc k hlt
      have HT := hide (any_take_succ (d := 0) (p := q) hlt HA.out)
      have HN := hide (idxF_found (d := 0) q l k hlt HA.out)
      have hm := getD_mem l k (d := 0) hlt
      generalize l.getD k 0 = x at hck HT HN hm
      have c0 := hck
      have HC := hide (H.out wr hIr.out x hm)
      clear hc hck hm
      cases hx : q x
      · rw [hx] at HC
        have HT' := hide (HT.out hx)
        clear hx
        go_wp2_with fail
        refine HC.out.mono ?_
        rintro e w' ⟨rfl, hI''⟩
        have hI' := hide hI''
        clear hI''
        go_wp2_with fail
        go_roundw
        case rel => exact ⟨k + 1, by have := HK1.out; omega, by go_num, HT', hI'⟩
        case measure => have := HK1.out; simp [intOf]; omega
      · rw [hx] at HC
        have HN' := hide (HN.out hx)
        clear hx
        go_wp2_with fail
        refine HC.out.mono ?_
        rintro e w' ⟨rfl, hI''⟩
        have hI' := hide hI''
        clear hI''
        go_wp2_with fail
        go_ret
        exact ⟨ret_int HN'.out.symm, hI'.out⟩
    · go_wp2
      go_ret
      exact ⟨ret_int (idxF_none _ l (any_take_end (by omega) HA.out)).symm, hIr.out⟩
set_option maxHeartbeats 1000000 in
theorem has_ints (I : World → Prop) (g : Nat) (lb : Array Value) (eg : ∀ args w, (callFunc g args).run Tryz.prog w = .ok (.enter g args) w) (q : Int → Bool) (l : List Int) (v : Value) (w : World) (hv : ∀ W, I W → IntsIn W.cell? v l) (hI0 : I w) (H : AskI I g lb (Value.int .i64) q l) :
    Calls Tryz.prog 61 #[v, .func (.func g) #[] lb] w (RetI I (.bool (l.any q))) := by
  have HF := hide (idxF_any q l)
  have HH := hide (idx_ints I g lb eg q l v w hv hI0 H)
  clear H hI0
  go_enter Tryz.func61, Tryz.ntmps61
  go_wp2_with fail
  refine HH.out.mono ?_
  rintro e w' ⟨rfl, hI''⟩
  have hI' := hide hI''
  clear hI''
  go_wp2_with fail
  go_ret
  exact ⟨ret_bool HF.out, hI'.out⟩
set_option maxHeartbeats 1000000 in
theorem idx_facts (I : World → Prop) (g : Nat) (lb : Array Value) (eg : ∀ args w, (callFunc g args).run Tryz.prog w = .ok (.enter g args) w) (q : FactD → Bool) (l : List FactD) (v : Value) (w : World) (hv : ∀ W, I W → FactsIn W.cell? v l) (hI0 : I w) (H : AskI I g lb factV q l) :
    Calls Tryz.prog 63 #[v, .func (.func g) #[] lb] w (RetI I (.int .i64 (idxF q l))) := by
  obtain ⟨a, c, rfl, hlc, hcm, -⟩ := id (hv w hI0)
  have hlI : (l.length : Int) ≤ 9223372036854775807 := by omega
  have hI := hide hI0
  have HV := hide hv
  have H' := hide H
  clear H
  have H := H'
  clear hv hlc hcm hI0
  go_enter Tryz.func63, Tryz.ntmps63
  go_wp2
  go_loopw [8] (fun i wr => ∃ (k : Nat), k ≤ l.length ∧ i = .int .i64 k ∧ Hid ((l.take k).any q = false) ∧ Hid (I wr)) (fun i _ => l.length - (intOf i).toNat)
  case atStart => exact ⟨0, by omega, rfl, rfl, hI⟩
  case round =>
    obtain ⟨k, hk, rfl, HA, hIr⟩ := hrel
    by_cases hlt : k < l.length
    · have HK1 := hide hlt
      obtain ⟨a', n', e', -, -, hc⟩ := HV.out wr hIr.out
      cases e'
      obtain ⟨b, o, rfl, hck⟩ := hc k hlt
      have HT := hide (any_take_succ (d := fact0) (p := q) hlt HA.out)
      have HN := hide (idxF_found (d := fact0) q l k hlt HA.out)
      have hm := getD_mem l k (d := fact0) hlt
      generalize l.getD k fact0 = x at hck HT HN hm
      have c0 := hck 0 _ rfl
      have c1 := hck 1 _ rfl
      have c2 := hck 2 _ rfl
      have c3 := hck 3 _ rfl
      have c4 := hck 4 _ rfl
      have c5 := hck 5 _ rfl
      rw [Nat.add_zero] at c0
      have HC := hide (H.out wr hIr.out x hm)
      clear hc hck hm
      cases hx : q x
      · rw [hx] at HC
        have HT' := hide (HT.out hx)
        clear hx
        go_wp2_with fail
        refine HC.out.mono ?_
        rintro e w' ⟨rfl, hI''⟩
        have hI' := hide hI''
        clear hI''
        go_wp2_with fail
        go_roundw
        case rel => exact ⟨k + 1, by have := HK1.out; omega, by go_num, HT', hI'⟩
        case measure => have := HK1.out; simp [intOf]; omega
      · rw [hx] at HC
        have HN' := hide (HN.out hx)
        clear hx
        go_wp2_with fail
        refine HC.out.mono ?_
        rintro e w' ⟨rfl, hI''⟩
        have hI' := hide hI''
        clear hI''
        go_wp2_with fail
        go_ret
        exact ⟨ret_int HN'.out.symm, hI'.out⟩
    · go_wp2
      go_ret
      exact ⟨ret_int (idxF_none _ l (any_take_end (by omega) HA.out)).symm, hIr.out⟩
set_option maxHeartbeats 1000000 in
theorem has_facts (I : World → Prop) (g : Nat) (lb : Array Value) (eg : ∀ args w, (callFunc g args).run Tryz.prog w = .ok (.enter g args) w) (q : FactD → Bool) (l : List FactD) (v : Value) (w : World) (hv : ∀ W, I W → FactsIn W.cell? v l) (hI0 : I w) (H : AskI I g lb factV q l) :
    Calls Tryz.prog 47 #[v, .func (.func g) #[] lb] w (RetI I (.bool (l.any q))) := by
  have HF := hide (idxF_any q l)
  have HH := hide (idx_facts I g lb eg q l v w hv hI0 H)
  clear H hI0
  go_enter Tryz.func47, Tryz.ntmps47
  go_wp2_with fail
  refine HH.out.mono ?_
  rintro e w' ⟨rfl, hI''⟩
  have hI' := hide hI''
  clear hI''
  go_wp2_with fail
  go_ret
  exact ⟨ret_bool HF.out, hI'.out⟩
set_option maxHeartbeats 1000000 in
theorem idx_repeals (I : World → Prop) (g : Nat) (lb : Array Value) (eg : ∀ args w, (callFunc g args).run Tryz.prog w = .ok (.enter g args) w) (q : RepealD → Bool) (l : List RepealD) (v : Value) (w : World) (hv : ∀ W, I W → RepealsIn W.cell? v l) (hI0 : I w) (H : AskI I g lb repealV q l) :
    Calls Tryz.prog 62 #[v, .func (.func g) #[] lb] w (RetI I (.int .i64 (idxF q l))) := by
  obtain ⟨a, c, rfl, hlc, hcm, -⟩ := id (hv w hI0)
  have hlI : (l.length : Int) ≤ 9223372036854775807 := by omega
  have hI := hide hI0
  have HV := hide hv
  have H' := hide H
  clear H
  have H := H'
  clear hv hlc hcm hI0
  go_enter Tryz.func62, Tryz.ntmps62
  go_wp2
  go_loopw [8] (fun i wr => ∃ (k : Nat), k ≤ l.length ∧ i = .int .i64 k ∧ Hid ((l.take k).any q = false) ∧ Hid (I wr)) (fun i _ => l.length - (intOf i).toNat)
  case atStart => exact ⟨0, by omega, rfl, rfl, hI⟩
  case round =>
    obtain ⟨k, hk, rfl, HA, hIr⟩ := hrel
    by_cases hlt : k < l.length
    · have HK1 := hide hlt
      obtain ⟨a', n', e', -, -, hc⟩ := HV.out wr hIr.out
      cases e'
      obtain ⟨b, o, rfl, hck⟩ := hc k hlt
      have HT := hide (any_take_succ (d := repeal0) (p := q) hlt HA.out)
      have HN := hide (idxF_found (d := repeal0) q l k hlt HA.out)
      have hm := getD_mem l k (d := repeal0) hlt
      generalize l.getD k repeal0 = x at hck HT HN hm
      have c0 := hck 0 _ rfl
      have c1 := hck 1 _ rfl
      have c2 := hck 2 _ rfl
      rw [Nat.add_zero] at c0
      have HC := hide (H.out wr hIr.out x hm)
      clear hc hck hm
      cases hx : q x
      · rw [hx] at HC
        have HT' := hide (HT.out hx)
        clear hx
        go_wp2_with fail
        refine HC.out.mono ?_
        rintro e w' ⟨rfl, hI''⟩
        have hI' := hide hI''
        clear hI''
        go_wp2_with fail
        go_roundw
        case rel => exact ⟨k + 1, by have := HK1.out; omega, by go_num, HT', hI'⟩
        case measure => have := HK1.out; simp [intOf]; omega
      · rw [hx] at HC
        have HN' := hide (HN.out hx)
        clear hx
        go_wp2_with fail
        refine HC.out.mono ?_
        rintro e w' ⟨rfl, hI''⟩
        have hI' := hide hI''
        clear hI''
        go_wp2_with fail
        go_ret
        exact ⟨ret_int HN'.out.symm, hI'.out⟩
    · go_wp2
      go_ret
      exact ⟨ret_int (idxF_none _ l (any_take_end (by omega) HA.out)).symm, hIr.out⟩
set_option maxHeartbeats 1000000 in
theorem has_repeals (I : World → Prop) (g : Nat) (lb : Array Value) (eg : ∀ args w, (callFunc g args).run Tryz.prog w = .ok (.enter g args) w) (q : RepealD → Bool) (l : List RepealD) (v : Value) (w : World) (hv : ∀ W, I W → RepealsIn W.cell? v l) (hI0 : I w) (H : AskI I g lb repealV q l) :
    Calls Tryz.prog 45 #[v, .func (.func g) #[] lb] w (RetI I (.bool (l.any q))) := by
  have HF := hide (idxF_any q l)
  have HH := hide (idx_repeals I g lb eg q l v w hv hI0 H)
  clear H hI0
  go_enter Tryz.func45, Tryz.ntmps45
  go_wp2_with fail
  refine HH.out.mono ?_
  rintro e w' ⟨rfl, hI''⟩
  have hI' := hide hI''
  clear hI''
  go_wp2_with fail
  go_ret
  exact ⟨ret_bool HF.out, hI'.out⟩
set_option maxHeartbeats 1000000 in
theorem idx_finds (I : World → Prop) (g : Nat) (lb : Array Value) (eg : ∀ args w, (callFunc g args).run Tryz.prog w = .ok (.enter g args) w) (q : FindD → Bool) (l : List FindD) (v : Value) (w : World) (hv : ∀ W, I W → FindsIn W.cell? v l) (hI0 : I w) (H : AskI I g lb findV q l) :
    Calls Tryz.prog 95 #[v, .func (.func g) #[] lb] w (RetI I (.int .i64 (idxF q l))) := by
  obtain ⟨a, c, rfl, hlc, hcm, -⟩ := id (hv w hI0)
  have hlI : (l.length : Int) ≤ 9223372036854775807 := by omega
  have hI := hide hI0
  have HV := hide hv
  have H' := hide H
  clear H
  have H := H'
  clear hv hlc hcm hI0
  go_enter Tryz.func95, Tryz.ntmps95
  go_wp2
  go_loopw [8] (fun i wr => ∃ (k : Nat), k ≤ l.length ∧ i = .int .i64 k ∧ Hid ((l.take k).any q = false) ∧ Hid (I wr)) (fun i _ => l.length - (intOf i).toNat)
  case atStart => exact ⟨0, by omega, rfl, rfl, hI⟩
  case round =>
    obtain ⟨k, hk, rfl, HA, hIr⟩ := hrel
    by_cases hlt : k < l.length
    · have HK1 := hide hlt
      obtain ⟨a', n', e', -, -, hc⟩ := HV.out wr hIr.out
      cases e'
      obtain ⟨b, o, rfl, hck⟩ := hc k hlt
      have HT := hide (any_take_succ (d := find0) (p := q) hlt HA.out)
      have HN := hide (idxF_found (d := find0) q l k hlt HA.out)
      have hm := getD_mem l k (d := find0) hlt
      generalize l.getD k find0 = x at hck HT HN hm
      have c0 := hck 0 _ rfl
      have c1 := hck 1 _ rfl
      have c2 := hck 2 _ rfl
      have c3 := hck 3 _ rfl
      rw [Nat.add_zero] at c0
      have HC := hide (H.out wr hIr.out x hm)
      clear hc hck hm
      cases hx : q x
      · rw [hx] at HC
        have HT' := hide (HT.out hx)
        clear hx
        go_wp2_with fail
        refine HC.out.mono ?_
        rintro e w' ⟨rfl, hI''⟩
        have hI' := hide hI''
        clear hI''
        go_wp2_with fail
        go_roundw
        case rel => exact ⟨k + 1, by have := HK1.out; omega, by go_num, HT', hI'⟩
        case measure => have := HK1.out; simp [intOf]; omega
      · rw [hx] at HC
        have HN' := hide (HN.out hx)
        clear hx
        go_wp2_with fail
        refine HC.out.mono ?_
        rintro e w' ⟨rfl, hI''⟩
        have hI' := hide hI''
        clear hI''
        go_wp2_with fail
        go_ret
        exact ⟨ret_int HN'.out.symm, hI'.out⟩
    · go_wp2
      go_ret
      exact ⟨ret_int (idxF_none _ l (any_take_end (by omega) HA.out)).symm, hIr.out⟩
set_option maxHeartbeats 1000000 in
theorem has_finds (I : World → Prop) (g : Nat) (lb : Array Value) (eg : ∀ args w, (callFunc g args).run Tryz.prog w = .ok (.enter g args) w) (q : FindD → Bool) (l : List FindD) (v : Value) (w : World) (hv : ∀ W, I W → FindsIn W.cell? v l) (hI0 : I w) (H : AskI I g lb findV q l) :
    Calls Tryz.prog 68 #[v, .func (.func g) #[] lb] w (RetI I (.bool (l.any q))) := by
  have HF := hide (idxF_any q l)
  have HH := hide (idx_finds I g lb eg q l v w hv hI0 H)
  clear H hI0
  go_enter Tryz.func68, Tryz.ntmps68
  go_wp2_with fail
  refine HH.out.mono ?_
  rintro e w' ⟨rfl, hI''⟩
  have hI' := hide hI''
  clear hI''
  go_wp2_with fail
  go_ret
  exact ⟨ret_bool HF.out, hI'.out⟩
set_option maxHeartbeats 1000000 in
theorem idx_clauses (I : World → Prop) (g : Nat) (lb : Array Value) (eg : ∀ args w, (callFunc g args).run Tryz.prog w = .ok (.enter g args) w) (q : ClauseD → Bool) (l : List ClauseD) (v : Value) (w : World) (hv : ∀ W, I W → ClausesIn W.cell? v l) (hI0 : I w) (H : ∀ W, I W → ∀ x ∈ l, ∀ nv bv, IntsIn W.cell? nv x.needs → IntsIn W.cell? bv x.bars → Calls Tryz.prog g (#[clauseV x nv bv] ++ lb) W (RetI I (.bool (q x)))) :
    Calls Tryz.prog 59 #[v, .func (.func g) #[] lb] w (RetI I (.int .i64 (idxF q l))) := by
  obtain ⟨a, c, rfl, hlc, hcm, -⟩ := id (hv w hI0)
  have hlI : (l.length : Int) ≤ 9223372036854775807 := by omega
  have hI := hide hI0
  have HV := hide hv
  have H' := hide H
  clear H
  have H := H'
  clear hv hlc hcm hI0
  go_enter Tryz.func59, Tryz.ntmps59
  go_wp2
  go_loopw [8] (fun i wr => ∃ (k : Nat), k ≤ l.length ∧ i = .int .i64 k ∧ Hid ((l.take k).any q = false) ∧ Hid (I wr)) (fun i _ => l.length - (intOf i).toNat)
  case atStart => exact ⟨0, by omega, rfl, rfl, hI⟩
  case round =>
    obtain ⟨k, hk, rfl, HA, hIr⟩ := hrel
    by_cases hlt : k < l.length
    · have HK1 := hide hlt
      obtain ⟨a', n', e', -, -, hc⟩ := HV.out wr hIr.out
      cases e'
      obtain ⟨b, o, nv, bv, rfl, hck⟩ := hc k hlt
      have HT := hide (any_take_succ (d := clause0) (p := q) hlt HA.out)
      have HN := hide (idxF_found (d := clause0) q l k hlt HA.out)
      have hm := getD_mem l k (d := clause0) hlt
      generalize l.getD k clause0 = x at hck HT HN hm
      obtain ⟨c0, c1, c2, c3, c4, c5, c6, c7⟩ := hck
      obtain ⟨na, nc, rfl, -⟩ := id c6
      obtain ⟨ba, bc, rfl, -⟩ := id c7
      have HC := hide (H.out wr hIr.out x hm _ _ c6 c7)
      clear hc hm c6 c7
      cases hx : q x
      · rw [hx] at HC
        have HT' := hide (HT.out hx)
        clear hx
        go_wp2_with fail
        refine HC.out.mono ?_
        rintro e w' ⟨rfl, hI''⟩
        have hI' := hide hI''
        clear hI''
        go_wp2_with fail
        go_roundw
        case rel => exact ⟨k + 1, by have := HK1.out; omega, by go_num, HT', hI'⟩
        case measure => have := HK1.out; simp [intOf]; omega
      · rw [hx] at HC
        have HN' := hide (HN.out hx)
        clear hx
        go_wp2_with fail
        refine HC.out.mono ?_
        rintro e w' ⟨rfl, hI''⟩
        have hI' := hide hI''
        clear hI''
        go_wp2_with fail
        go_ret
        exact ⟨ret_int HN'.out.symm, hI'.out⟩
    · go_wp2
      go_ret
      exact ⟨ret_int (idxF_none _ l (any_take_end (by omega) HA.out)).symm, hIr.out⟩
set_option maxHeartbeats 1000000 in
theorem has_clauses (I : World → Prop) (g : Nat) (lb : Array Value) (eg : ∀ args w, (callFunc g args).run Tryz.prog w = .ok (.enter g args) w) (q : ClauseD → Bool) (l : List ClauseD) (v : Value) (w : World) (hv : ∀ W, I W → ClausesIn W.cell? v l) (hI0 : I w) (H : ∀ W, I W → ∀ x ∈ l, ∀ nv bv, IntsIn W.cell? nv x.needs → IntsIn W.cell? bv x.bars → Calls Tryz.prog g (#[clauseV x nv bv] ++ lb) W (RetI I (.bool (q x)))) :
    Calls Tryz.prog 39 #[v, .func (.func g) #[] lb] w (RetI I (.bool (l.any q))) := by
  have HF := hide (idxF_any q l)
  have HH := hide (idx_clauses I g lb eg q l v w hv hI0 H)
  clear H hI0
  go_enter Tryz.func39, Tryz.ntmps39
  go_wp2_with fail
  refine HH.out.mono ?_
  rintro e w' ⟨rfl, hI''⟩
  have hI' := hide hI''
  clear hI''
  go_wp2_with fail
  go_ret
  exact ⟨ret_bool HF.out, hI'.out⟩
end Go.Proofs.YtdjldidfnddpmaaGreatDoor
