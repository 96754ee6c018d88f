/- The walk of the law's inserted. Conditions: how the list lies in memory; sizes. -/
import Derived.Test.YtdjldidfnddpmaaSxG
namespace Go.Proofs.Ytdjldidfnddpmaa
open Go.RowKit
/-- what inserted has made of the first numbers: the list, and whether the number is in it -/
def insS (n : Int) (a : List Int × Bool) (x : Int) : List Int × Bool := if a.2 = false ∧ n < x then (a.1 ++ [n, x], true) else (a.1 ++ [x], a.2)
def insK (l : List Int) (n : Int) (k : Nat) : List Int × Bool := (l.take k).foldl (insS n) ([], false)
theorem insK_succ (l : List Int) (n : Int) {k : Nat} (h : k < l.length) : insK l n (k + 1) = insS n (insK l n k) (l.getD k 0) := by
  unfold insK
  rw [take_succ' l k 0 h, List.foldl_append]; rfl
theorem insS_true (n : Int) : ∀ (l acc : List Int), l.foldl (insS n) (acc, true) = (acc ++ l, true)
  | [], acc => by simp
  | x :: l, acc => by
    rw [List.foldl_cons]
    have e : insS n (acc, true) x = (acc ++ [x], true) := by simp [insS]
    rw [e, insS_true n l]; simp
theorem insS_false (n : Int) : ∀ (l acc : List Int), (fun (r : List Int × Bool) => if r.2 = true then r.1 else r.1 ++ [n]) (l.foldl (insS n) (acc, false)) = acc ++ insA n l
  | [], acc => by simp [insA]
  | x :: l, acc => by
    rw [List.foldl_cons]
    by_cases h : n < x
    · have e : insS n (acc, false) x = (acc ++ [n, x], true) := by simp [insS, h]
      rw [e, insS_true]
      simp [insA, h]
    · have e : insS n (acc, false) x = (acc ++ [x], false) := by simp [insS, h]
      rw [e, insS_false n l]
      simp [insA, h]
theorem insK_len (l : List Int) (n : Int) : ∀ k, k ≤ l.length → (insK l n k).1.length ≤ 2 * k
  | 0, _ => by simp [insK]
  | k + 1, h => by
    have ih := insK_len l n k (by omega)
    rw [insK_succ l n (by omega)]
    unfold insS
    split
    · simp; omega
    · simp; omega
theorem insK_end (l : List Int) (n : Int) (h : n ∉ l) : insertedF l n = if (insK l n l.length).2 = true then (insK l n l.length).1 else (insK l n l.length).1 ++ [n] := by
  have := insS_false n l []
  unfold insertedF insK
  rw [if_neg h, List.take_length]
  rw [List.nil_append] at this
  exact this.symm
theorem mem_take_succ {l : List Int} {n : Int} {k : Nat} (h : k < l.length) (h1 : n ∉ l.take k) (h2 : l.getD k 0 ≠ n) : n ∉ l.take (k + 1) := by
  rw [take_succ' l k 0 h, List.mem_append, List.mem_singleton]
  rintro (h3 | h3)
  · exact h1 h3
  · exact h2 h3.symm
def AnyI (l : List Int) (w : World) (e : Ending) (w' : World) : Prop := ∃ v, e = .returned v ∧ IntsIn w'.cell? v l ∧ Below w.heap.size w w'
set_option maxRecDepth 100000 in
set_option maxHeartbeats 2000000 in
theorem inserted_any (l : List Int) (n : Int) (v : Value) (w : World) (hv : IntsIn w.cell? v l) (hl : l.length ≤ 1000) : Calls Try.prog 19 #[v, .int .i64 n] w (AnyI (insertedF l n) w) := by
  have HV := hide hv
  obtain ⟨a, m, rfl, h1, h2, -⟩ := id hv
  have HIN : Hid (n ∈ l → insertedF l n = l) := hide fun h => by unfold insertedF; rw [if_pos h]
  have HEN := hide (insK_end l n)
  generalize insertedF l n = R at HIN HEN ⊢
  clear hv
  have hlI : (l.length : Int) ≤ 1000 := by omega
  go_enter Try.func19, Try.ntmps19
  go_wp2_with fail
  go_loopw [5, 6, 7] (fun ov pv i wr => ∃ (k : Nat) (p : Bool), k ≤ l.length ∧ i = .int .i64 k ∧ pv = .bool p ∧ OwnI wr w.heap.size ov (insK l n k).1 ∧ Hid ((insK l n k).2 = p) ∧ Hid (n ∉ l.take k) ∧ Below w.heap.size w wr) (fun _ _ i _ => l.length - (intOf i).toNat)
  case atStart => exact ⟨0, false, by omega, rfl, rfl, OwnI.nil _ _, hide rfl, hide (by simp), Below.refl _ _⟩
  case round =>
    obtain ⟨k, p, hk, rfl, rfl, hown, HP, HM, hbr⟩ := hrel
    by_cases hlt : k < l.length
    · have HK := hide hlt
      obtain ⟨a', m', e', -, -, hc⟩ := HV.out
      cases e'
      obtain ⟨b, o, rfl, hckw⟩ := hc k hlt
      have hltI : (k : Int) < l.length := by omega
      have HS := hide (insK_succ l n hlt)
      have HMT := hide (mem_take_succ (n := n) hlt HM.out)
      have HME := hide (getD_mem l k (d := 0) hlt)
      have hln := insK_len l n k (by omega)
      generalize l.getD k 0 = x at hckw HS HMT HME
      have hck := keep hbr hckw
      obtain ⟨pa, pc, rfl⟩ := hown.form
      by_cases hx : x = n
      · subst hx
        have e' : (x == x) = true := by simp
        have HR := hide (HIN.out HME.out)
        clear hc
        go_wp2_with fail
        go_ret
        exact ⟨_, rfl, by rw [HR.out]; exact IntsAt.below hbr HV.out, hbr⟩
      · have e' : (x == n) = false := by simp [hx]
        have HMN := hide (HMT.out hx)
        clear hc hx HMT HME
        generalize hK0 : insK l n k = K0 at *
        obtain ⟨K0l, K0p⟩ := K0
        obtain rfl : K0p = p := HP.out
        have hown' : OwnI wr w.heap.size (.slice pa K0l.length pc) K0l := hown
        have hl2 : K0l.length ≤ 2000 := by have : K0l.length ≤ 2 * k := hln; omega
        have hsz := hbr.size
        clear hown hln
        cases K0p
        · by_cases hgt : n < x
          · have HS' : Hid (insK l n (k + 1) = (K0l ++ [n, x], true)) := hide (by rw [HS.out]; simp [insS, hgt])
            clear HS hK0 HP
            go_wp2_with (first | (at_builtin; refine app_int rfl _ _ rfl w.heap.size _ _ rfl hO1 x rfl hl3 hs1 ?_; intro v2 w2 hO2 hb2 hs2) | (at_builtin; refine app_int rfl _ _ rfl w.heap.size _ _ rfl hown' n rfl (by omega) hsz ?_; intro v1 w1 hO1 hb1 hs1'; have hs1 : w.heap.size ≤ w1.heap.size := (by omega); obtain ⟨pa1, pc1, e1⟩ := hO1.form; rw [List.length_append, List.length_singleton] at e1; subst e1; have hck1 := keep (hbr.trans hb1) hckw; have hl3 : (K0l ++ [n]).length < 1000000 := (by rw [List.length_append, List.length_singleton]; omega)))
            have HK1 := HS'.out
            have hO3 : OwnI w2 w.heap.size v2 (K0l ++ [n, x]) := by simpa using hO2
            have HO3 := hide hO3
            have HB3 := hide ((hbr.trans hb1).trans hb2)
            clear hO1 hO2 hO3 hb1 hb2
            go_roundw
            case rel => exact ⟨k + 1, true, by have := HK.out; omega, by go_num, rfl, by rw [HK1]; exact HO3.out, hide (by rw [HK1]), HMN, HB3.out⟩
            case measure => have := HK.out; simp [intOf]; omega
          · have HS' : Hid (insK l n (k + 1) = (K0l ++ [x], false)) := hide (by rw [HS.out]; simp [insS, hgt])
            clear HS hK0 HP
            go_wp2_with (at_builtin; refine app_int rfl _ _ rfl w.heap.size _ _ rfl hown' x rfl (by omega) hsz ?_; intro v2 w2 hO2 hb2 hs2)
            have HK1 := HS'.out
            have HO3 := hide hO2
            have HB3 := hide (hbr.trans hb2)
            clear hO2 hb2
            go_roundw
            case rel => exact ⟨k + 1, false, by have := HK.out; omega, by go_num, rfl, by rw [HK1]; exact HO3.out, hide (by rw [HK1]), HMN, HB3.out⟩
            case measure => have := HK.out; simp [intOf]; omega
        · have HS' : Hid (insK l n (k + 1) = (K0l ++ [x], true)) := hide (by rw [HS.out]; simp [insS])
          clear HS hK0 HP
          go_wp2_with (at_builtin; refine app_int rfl _ _ rfl w.heap.size _ _ rfl hown' x rfl (by omega) hsz ?_; intro v2 w2 hO2 hb2 hs2)
          have HK1 := HS'.out
          have HO3 := hide hO2
          have HB3 := hide (hbr.trans hb2)
          clear hO2 hb2
          go_roundw
          case rel => exact ⟨k + 1, true, by have := HK.out; omega, by go_num, rfl, by rw [HK1]; exact HO3.out, hide (by rw [HK1]), HMN, HB3.out⟩
          case measure => have := HK.out; simp [intOf]; omega
    · obtain rfl : k = l.length := by omega
      have HE := hide (HEN.out (by have := HM.out; rwa [List.take_length] at this))
      have hln := insK_len l n l.length (Nat.le_refl _)
      generalize insK l n l.length = K0 at *
      obtain ⟨K0l, K0p⟩ := K0
      obtain rfl : K0p = p := HP.out
      obtain ⟨pa, pc, rfl⟩ := hown.form
      have hown' : OwnI wr w.heap.size (.slice pa K0l.length pc) K0l := hown
      have hl2 : K0l.length ≤ 2000 := by have : K0l.length ≤ 2 * l.length := hln; omega
      have hsz := hbr.size
      clear hown hln
      cases K0p
      · have HE' : Hid (R = K0l ++ [n]) := hide (by rw [HE.out]; simp)
        clear HE HP
        go_wp2_with (at_builtin; refine app_int rfl _ _ rfl w.heap.size _ _ rfl hown' n rfl (by omega) hsz ?_; intro v2 w2 hO2 hb2 hs2)
        go_ret
        exact ⟨_, rfl, by rw [HE'.out]; exact hO2.ints, hbr.trans hb2⟩
      · have HE' : Hid (R = K0l) := hide (by rw [HE.out]; simp)
        clear HE HP
        go_wp2_with fail
        go_ret
        exact ⟨_, rfl, by rw [HE'.out]; exact hown'.ints, hbr⟩
end Go.Proofs.Ytdjldidfnddpmaa
