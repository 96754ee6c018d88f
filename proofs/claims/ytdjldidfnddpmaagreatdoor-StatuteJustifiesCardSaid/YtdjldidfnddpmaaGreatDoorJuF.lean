/- The walk of held (chapter 23): what holds with a set, and the rules by which it was found. Conditions: how a valid theory lies in memory. -/
import Derived.Test.YtdjldidfnddpmaaGreatDoorJuE
import Derived.WalkMore
namespace Go.Proofs.YtdjldidfnddpmaaGreatDoor
open Go.RowKit
theorem natsJ_app (l : List Nat) (k : Nat) : natsJ (l ++ [k]) = natsJ l ++ [(k : Int)] := by simp [natsJ]
theorem own_weakJ {w : World} {B B' : Nat} {v : Value} {l : List Int} (h : OwnI w B v l) (hB : B' ≤ B) : OwnI w B' v l := by
  obtain ⟨h1, h2⟩ := h
  refine ⟨h1, h2.imp id ?_⟩
  rintro ⟨g, cap, cur, e1, e2, e3⟩
  exact ⟨g, cap, cur, e1, Nat.le_trans hB e2, e3⟩
/-- what held returns: a closed set, the least one, and rules of its own -/
def HeldQ (rs : List RuleD) (N S0 : Nat) (w : World) (e : Ending) (w' : World) : Prop := ∃ S l v, e = .returned (.tuple #[.int .i64 (S : Nat), v]) ∧ HeldP rs N S0 S l ∧ OwnI w' w.heap.size v (natsJ l) ∧ Below w.heap.size w w'
def unsetF (rs : List RuleD) (S : Nat) : Nat := (rs.filter fun r => !S.testBit r.gives).length
theorem pow32 {g : Nat} (h : g < 32) : 2 ^ g < 2 ^ 32 := Nat.pow_lt_pow_right (by omega) h
theorem pow_or {S g : Nat} (hS : S < 2 ^ 32) (hg : g < 32) : ∃ P : Nat, 2 ^ g = P ∧ wrap64 (2 ^ g) = (P : Int) ∧ bits BinOp.or IntKind.i64 (S : Int) (P : Int) = ((S ||| P : Nat) : Int) := by
  have hP32 := pow32 hg
  refine ⟨2 ^ g, rfl, ?_, bor62 (by omega) (by omega)⟩
  have e : (2 : Int) ^ g = ((2 ^ g : Nat) : Int) := by simp
  rw [e]
  generalize 2 ^ g = P at *
  exact wrap_id (by omega) (by omega)
set_option maxRecDepth 100000 in
set_option maxHeartbeats 2000000 in
theorem held_any (s d S0 : Nat) (v : Value) (rs : List RuleD) (w : World) (ht : OkT s d rs) (hv : RulesIn w.cell? v rs) (hS0 : S0 < 2 ^ (s + d)) : Calls Tryz.prog 31 #[.agg #[.int .i64 s, .int .i64 d, v], .int .i64 S0] w (HeldQ rs (s + d) S0 w) := by
  obtain ⟨N, hN⟩ : ∃ N, s + d = N := ⟨_, rfl⟩
  have hN32 : N ≤ 32 := by have := ht.s; have := ht.d; omega
  have hR : ∀ i, i < rs.length → (∀ m ∈ (rs.getD i rule0).needs, m < 32) ∧ (rs.getD i rule0).gives < N := fun i hi => by
    have := ht.rule _ (getD_in hi)
    exact ⟨fun m hm => by have := this.2.2.1 m hm; omega, by omega⟩
  rw [hN] at hS0 ⊢
  have hlen : rs.length ≤ 40 := ht.len
  have HI0 := hide (held_start (rs := rs) hS0)
  have HST := hide (fun S l (h : HeldI rs N S0 S l) i hi hn => held_step h (i := i) hi hn (hR i hi).2)
  have HEN := hide (fun S l (h : HeldI rs N S0 S l) hn => held_end h hn)
  have HRU := hide hR
  have HV := hide hv
  have HU : Hid (∀ S, unsetF rs S = (rs.filter fun r => !S.testBit r.gives).length) := hide fun _ => rfl
  have HP32 := hide (Nat.pow_le_pow_right (n := 2) (by omega) hN32)
  obtain ⟨a, c, rfl, -⟩ := id hv
  clear ht hv hR hS0 hN
  have hlI : (rs.length : Int) ≤ 9223372036854775807 := by omega
  generalize unsetF rs = UN at HU
  go_enter Tryz.func31, Tryz.ntmps31
  go_wp2_with fail
  generalize hX1 : World.alloc w _ = X1
  have zX1 : X1.heap.size = w.heap.size + 1 := by rw [← hX1]; simp
  have bX1 : Below w.heap.size w X1 := by rw [← hX1]; exact bal w _
  have bT : Blk X1 (w.heap.size) [.int .i64 s, .int .i64 d, .slice a rs.length c] 47 := by rw [← hX1]; exact Blk.newA w _ (by first | rfl | simp)
  have Xb := bX1
  have Xz := zX1
  clear hX1 zX1 bX1
  go_step3
  go_wp2_with fail
  go_step3
  go_wp2_with fail
  go_loopw [1, 6] (fun sv bv wr => ∃ (S : Nat) (l : List Nat), sv = .int .i64 S ∧ Hid (HeldI rs N S0 S l) ∧ OwnI wr X1.heap.size bv (natsJ l) ∧ Below X1.heap.size X1 wr) (fun sv _ _ => UN (intOf sv).toNat)
  case atStart => exact ⟨S0, [], rfl, HI0, OwnI.nil _ _, Below.refl _ _⟩
  case round =>
    obtain ⟨S, l, rfl, HI, hown, hbr⟩ := hrel
    obtain ⟨oa, oc, rfl⟩ := hown.form
    have hll : (natsJ l).length = l.length := natsJ_len l
    have hl40 : l.length ≤ 40 := by have := HI.out.len; omega
    have hS32 : S < 2 ^ 32 := Nat.lt_of_lt_of_le HI.out.bd HP32.out
    rw [hll] at hown ⊢
    have bT2 := bT.later hbr
    have t0 := bT2.cell 0 rfl
    have t1 := bT2.cell 1 rfl
    have t2 := bT2.cell 2 rfl
    go_wp2_with fail
    go_loopw [1, 6, 12] (fun sv bv i wz => ∃ (k : Nat), k ≤ rs.length ∧ i = .int .i64 k ∧ sv = .int .i64 S ∧ bv = .slice oa l.length oc ∧ Hid (∀ j, j < k → newB rs S j = false) ∧ OwnI wz X1.heap.size (.slice oa l.length oc) (natsJ l) ∧ Below X1.heap.size X1 wz) (fun _ _ i _ => rs.length - (intOf i).toNat)
    case atStart => exact ⟨0, by omega, rfl, rfl, rfl, hide (fun j hj => by omega), hown, hbr⟩
    case round =>
      obtain ⟨k, hk, rfl, rfl, rfl, HNO, hown, hbz⟩ := hrel
      by_cases hlt : k < rs.length
      · have hltI : (k : Int) < rs.length := by omega
        have HK := hide hlt
        have hru := HRU.out k hlt
        have HM := hide (fun X nv (hn : IntsIn X.cell? nv (natsJ (rs.getD k rule0).needs)) => meets_any (rs.getD k rule0) S nv X hS32 hru.1 hn)
        have HNB : Hid (newB rs S k = (!S.testBit (rs.getD k rule0).gives && meetB (rs.getD k rule0) S)) := hide rfl
        have HSP := hide (HST.out S l HI.out k hlt)
        obtain ⟨a', n', e', -, -, hc⟩ := HV.out.below (below2 Xb hbz)
        cases e'
        obtain ⟨b, o, nv, rfl, hck⟩ := hc k hlt
        obtain ⟨c0, c1, c2⟩ := hck
        obtain ⟨na, nc, rfl, -⟩ := id c2
        have hg32 : (rs.getD k rule0).gives < 32 := by omega
        have hbt := bit32 (k := (rs.getD k rule0).gives) hS32
        have hmin : min (rs.getD k rule0).gives 64 = (rs.getD k rule0).gives := by omega
        rw [natsJ_len] at c0
        have HC2 := hide c2
        rw [natsJ_len] at HC2
        generalize hRK : rs.getD k rule0 = r at *
        generalize hg : r.gives = g at *
        generalize hln : r.needs.length = ln at *
        clear hc c2 hru
        have hbA := below2 hbz (bal wr (.cells #[.slice na ln nc, .int .i64 g] 51))
        have hownA := hown.later (bal wr (.cells #[.slice na ln nc, .int .i64 g] 51))
        cases hb : S.testBit g
        · rw [hb] at hbt HNB
          have HC3 := IntsAt.below (bal wr (.cells #[.slice na ln nc, .int .i64 g] 51)) HC2.out
          have HMM := hide (HM.out _ _ HC3)
          clear HM HC2 HC3 hb
          generalize meetB r S = mb at HNB HMM
          go_wp2_with fail
          refine HMM.out.mono ?_
          rintro e w2 ⟨rfl, hw2⟩
          have hb2 := below2 hbA hw2
          have hown2 := hownA.later hw2
          cases mb
          · have HNO2 : Hid (∀ j, j < k + 1 → newB rs S j = false) := hide fun j hj => by
              by_cases e : j = k
              · subst e; rw [HNB.out]; rfl
              · exact HNO.out j (by omega)
            go_wp2_with fail
            exact ⟨⟨k + 1, by have := HK.out; omega, by go_num, rfl, rfl, HNO2, hown2, hb2⟩, by have := HK.out; simp [intOf]; omega⟩
          · have HS2 := hide (HSP.out (by rw [HNB.out]; rfl))
            obtain ⟨P, hP, e1, hor⟩ := pow_or hS32 hg32
            rw [hP] at HS2
            have rg := ((Blk.newA wr #[.slice na ln nc, .int .i64 g] (vs := [.slice na ln nc, .int .i64 g]) (t := 51) rfl).later hw2).cell 1 rfl
            have hlen : (natsJ l).length < 1000000 := by rw [hll]; omega
            have hBs : X1.heap.size ≤ w2.heap.size := hb2.size
            clear hP HSP HNB hS32 hg32 hbt hbA hownA hw2 hown hbz
            go_wp2_with (at_builtin; refine app_int rfl _ _ rfl X1.heap.size _ (natsJ l) rfl hown2 (k : Int) rfl hlen hBs ?_; intro v' w3 hown3 hb3 hz3)
            refine ⟨⟨S ||| P, l ++ [k], rfl, hide HS2.out.1, by rw [natsJ_app]; exact hown3, hb2.trans hb3⟩, ?_⟩
            have := HS2.out.2
            show UN ((((S ||| P : Nat) : Int)).toNat) < UN (((S : Nat) : Int).toNat)
            rw [Int.toNat_natCast, Int.toNat_natCast, HU.out, HU.out]; exact this
        · rw [hb] at hbt HNB
          have HNO2 : Hid (∀ j, j < k + 1 → newB rs S j = false) := hide fun j hj => by
            by_cases e : j = k
            · subst e; rw [HNB.out]; rfl
            · exact HNO.out j (by omega)
          go_wp2_with fail
          exact ⟨⟨k + 1, by have := HK.out; omega, by go_num, rfl, rfl, HNO2, hownA, hbA⟩, by have := HK.out; simp [intOf]; omega⟩
      · obtain rfl : k = rs.length := by omega
        have HH := hide (HEN.out S l HI.out (fun i hi => HNO.out i hi))
        go_wp2_with fail
        rw [Exit.noGoto_ret]
        go_ret2
        exact ⟨S, l, _, rfl, HH.out, own_weakJ hown Xb.size, below2 Xb hbz⟩
end Go.Proofs.YtdjldidfnddpmaaGreatDoor
