/- The walk of the reference's BentProof: it returns some list of findings. Conditions: how the list lies in memory; sizes; that integers are of 64 bits. -/
import Derived.Test.YtdjldidfnddpmaaSxD
namespace Go.Proofs.Ytdjldidfnddpmaa
open Go.RowKit
/-- the call returns a list of findings -/
def SomeFQ (m : Nat) (w : World) (e : Ending) (w' : World) : Prop := ∃ v l, e = .returned v ∧ FindsIn (frm w.heap.size w') v l ∧ l.length ≤ m ∧ Below w.heap.size w w'
theorem set_find {l : List FindD} {k : Nat} (hk : k < l.length) (j : Nat) (u : Value) (x : FindD) (h : (findC (l.getD k find0)).set j u = findC x) : (l.map findC).set k (((l.map findC).getD k []).set j u) = (l.set k x).map findC := by
  have hi' : (l.map findC).getD k [] = findC (l.getD k find0) := by
    rw [List.getD_eq_getElem?_getD, List.getElem?_map, List.getElem?_eq_getElem hk, List.getD_eq_getElem?_getD, List.getElem?_eq_getElem hk]; rfl
  rw [hi', h, List.map_set]
theorem ownFi_set {w : World} {B g c : Nat} {l : List FindD} (h : OwnFi w B (.slice (some ⟨g, 0, none⟩) l.length c) l) {k : Nat} (hk : k < l.length) (j : Nat) (hj : j < 4) (u : Value) (x : FindD) (hx : (findC (l.getD k find0)).set j u = findC x) : OwnFi (w.setCell ⟨g, k * 4 + j, none⟩ u) B (.slice (some ⟨g, 0, none⟩) l.length c) (l.set k x) := by
  have hl : (l.map findC).length = l.length := List.length_map ..
  have h1 := OwnR.set (g := g) (c := c) (L := l.map findC) (by rw [hl]; exact h) k j (by rw [hl]; exact hk) hj u
  rw [set_find hk j u x hx, hl] at h1
  exact h1
theorem below_set {w W : World} {g j : Nat} (hb : Below w.heap.size w W) (hg : w.heap.size ≤ g) (u : Value) : Below w.heap.size w (W.setCell ⟨g, j, none⟩ u) := hb.setCell (p := ⟨g, j, none⟩) hg u
theorem ownFi_ret {w W : World} {v : Value} {l : List FindD} (h : OwnFi W w.heap.size v l) (hb : Below w.heap.size w W) {m : Nat} (hm : l.length ≤ m) : SomeFQ m w (.returned v) W := ⟨v, l, rfl, OwnFi.inF h (Nat.le_refl _), hm, hb⟩
theorem finds_take {c : Rd} {b n m : Nat} {l : List FindD} (h : FindsIn c (.slice (some ⟨b, 0, none⟩) n m) l) {K : Nat} (hK : K ≤ l.length) (hm : K ≤ 1000) : FindsIn c (.slice (some ⟨b, 0, none⟩) K K) (l.take K) := by
  have hl : (l.take K).length = K := by rw [List.length_take, Nat.min_eq_left hK]
  refine ⟨some ⟨b, 0, none⟩, K, by rw [hl], by omega, by omega, fun i hi => ?_⟩
  rw [hl] at hi
  have e : (l.take K).getD i find0 = l.getD i find0 := by
    rw [List.getD_eq_getElem?_getD, List.getElem?_take_of_lt hi, ← List.getD_eq_getElem?_getD]
  rw [e]
  exact h.cell (by omega)
theorem own_join {w : World} {B n : Nat} {v : Value} {l m : List FindD} (h : w.ownsRow B 63 4 v n ((l.map findC).flatten ++ (m.map findC).flatten)) (hn : n = (l ++ m).length) : OwnFi w B v (l ++ m) := by
  subst hn
  refine ⟨?_, fun r hr => by obtain ⟨x, -, rfl⟩ := List.mem_map.1 hr; rfl⟩
  rw [List.length_map, List.map_append, List.flatten_append]
  exact h
set_option maxRecDepth 100000 in
set_option maxHeartbeats 4000000 in
theorem bent_any (l : List FindD) (lv : Value) (how n at_ : Int) (w : World) (hl : FindsIn w.cell? lv l) (hlen : l.length ≤ 100) (hh : i64B how) (ha : i64B at_) : Calls Try.prog 13 #[lv, .int .i64 how, .int .i64 n, .int .i64 at_] w (SomeFQ (l.length + 1) w) := by
  obtain ⟨la, ln, rfl, -⟩ := id hl
  have HC := hide (fun b (hb : la = some b) j u hj => rec_news findC_len (by decide) (by rw [hb] at hl; exact hl) j u hj (ad := b))
  have HNO : Hid (la = none → l.map findC = []) := hide fun h => by
    cases l with
    | nil => rfl
    | cons x t => obtain ⟨b, o, e, -⟩ := hl.cell (i := 0) (by simp); rw [h] at e; cases e
  have HP6 := hide (fun W => pickr_any how 6 W hh.1 hh.2 (by decide) (by decide))
  have HPK := hide (fun W (h0 : 0 < l.length) => pickr_any at_ l.length W ha.1 ha.2 (by omega) (by omega))
  obtain ⟨h60, h61⟩ := pkF_bd (n := 6) (by decide) how
  have HKB := hide (fun (h0 : 0 < l.length) => pkF_bd (n := (l.length : Int)) (by omega) at_)
  generalize pkF how 6 = p at *
  generalize pkF at_ l.length = kk at *
  clear hl hh ha
  go_enter Try.func13, Try.ntmps13
  rcases Nat.eq_zero_or_pos l.length with hl0 | hp0
  · obtain rfl := List.eq_nil_of_length_eq_zero hl0
    go_wp2_with (first | (at_builtin; refine app_recE infoFind rfl (by decide) Try.underlying28 rfl _ _ rfl w.heap.size _ [] rfl hO2 (findC ⟨n, false, -1, -1⟩) rfl (fun u hu => by simp only [findC, List.mem_cons, List.not_mem_nil, or_false] at hu; rcases hu with rfl | rfl | rfl | rfl <;> rfl) _ rfl rfl (by simp) (by simp) hs ?_; intro v2 w2 hO3 hE2 hob2) | (at_builtin; refine app_recsE infoFind rfl (by decide) Try.underlying28 rfl _ _ rfl w.heap.size _ [] rfl (lit_recsK w 63 4 (Nat.le_refl _)) la 0 ln [] (by simp) rfl (fun r hr => by cases hr) (fun u hu => by cases hu) (fun b hb j u hj => by simp at hj) (fun _ => rfl) (by simp) (by simp) (by simp) ?_; intro v1 w1 hO1 hE1 hob1; obtain ⟨va, vc, e1⟩ := own_form hO1; subst e1; have hO2 : OwnFi w1 w.heap.size (.slice va 0 vc) [] := (by exact hO1); have hB : Below w.heap.size w w1 := ⟨hE1.os, hE1.tape, hE1.output, by have := hE1.size; simp at this; omega, fun k hk => by rw [hE1.block k (by simp; omega) (by intro e; have e : k = w.heap.size := Option.some.inj e; omega), Below.heap_alloc _ _ _ hk]⟩; have hs := hB.size; clear hO1 hE1 hob1))
    have hO4 : OwnFi w2 w.heap.size v2 [⟨n, false, -1, -1⟩] := hO3
    go_ret
    exact ownFi_ret hO4 (hB.trans (hE2.below hs fun k hk => own_ge hO2 k hk)) (by simp)
  · obtain ⟨hk0, hk1⟩ := HKB.out hp0
    have HPK' := hide (fun W => HPK.out W hp0)
    obtain ⟨K, rfl⟩ : ∃ K : Nat, kk = K := ⟨kk.toNat, by omega⟩
    have hkl : K < l.length := by omega
    have hpI : (0 : Int) < l.length := by omega
    have hpe : ((l.length : Int) == 0) = false := beq_eq_false_iff_ne.2 (by omega)
    have hkI : (K : Int) < l.length := by omega
    clear HPK HKB hk0 hk1
    go_wp2_with (at_builtin; refine app_recsE infoFind rfl (by decide) Try.underlying28 rfl _ _ rfl w.heap.size _ [] rfl (lit_recsK w 63 4 (Nat.le_refl _)) la l.length ln (l.map findC) (by simp) rfl (fun r hr => by obtain ⟨x, -, rfl⟩ := List.mem_map.1 hr; rfl) (findC_one l) (fun b hb j u hj => keep (bal w _) (HC.out b hb j u hj)) HNO.out (by simp; omega) (by simp; omega) (by simp) ?_; intro v1 w1 hO1 hE1 hob1; obtain ⟨va, vc, e1⟩ := own_form hO1; rw [List.nil_append, List.length_map] at e1; subst e1; have hO2 : OwnFi w1 w.heap.size (.slice va l.length vc) l := (by simpa using hO1); have hB : Below w.heap.size w w1 := ⟨hE1.os, hE1.tape, hE1.output, by have := hE1.size; simp at this; omega, fun k hk => by rw [hE1.block k (by simp; omega) (by intro e; have e : k = w.heap.size := Option.some.inj e; omega), Below.heap_alloc _ _ _ hk]⟩; have hs := hB.size; clear hO1 hE1 hob1)
    obtain ⟨g, rfl, hgw⟩ : ∃ g, va = some ⟨g, 0, none⟩ ∧ w.heap.size ≤ g := by
      rcases hO2.form with ⟨h1, h2⟩ | ⟨g, c', cur, h1, h3, -⟩
      · have := congrArg List.length h2; rw [List.length_map] at this; simp at this; rw [this] at hp0; simp at hp0
      · rw [List.length_map] at h1; cases h1; exact ⟨g, rfl, h3⟩
    have HG := hide hgw
    have HO := hide hO2
    have HB := hide hB
    clear hO2 hB hgw hs
    refine (HPK'.out _).mono ?_
    rintro e w2 ⟨rfl, hw⟩; obtain rfl := hw.symm
    go_wp2_with fail
    refine (HP6.out _).mono ?_
    rintro e w2 ⟨rfl, hw⟩; obtain rfl := hw.symm
    have z : ∀ j, w1.frozen? ⟨g, j, none⟩ = false := fun j => World.ownsRow.frozenAt (show w1.ownsRow w.heap.size 63 4 (.slice (some ⟨g, 0, none⟩) l.length vc) l.length (l.map findC).flatten by have := HO.out.1; rwa [List.length_map] at this) j
    have hcell : ∀ j u, j < 4 → (findC (l.getD K find0))[j]? = some u → w1.cell? ⟨g, K * 4 + j, none⟩ = some u := fun j u hj hu => HO.out.cell K j (by rw [List.length_map]; exact hkl) hj (by
      have e : (l.map findC).getD K [] = findC (l.getD K find0) := by
        rw [List.getD_eq_getElem?_getD, List.getElem?_map, List.getElem?_eq_getElem hkl, List.getD_eq_getElem?_getD, List.getElem?_eq_getElem hkl]; rfl
      rw [e]; exact hu)
    have y0 := hcell 0 _ (by decide) rfl
    have y1 := hcell 1 _ (by decide) rfl
    have y2 := hcell 2 _ (by decide) rfl
    have y3 := hcell 3 _ (by decide) rfl
    rw [Nat.add_zero] at y0
    generalize hX : l.getD K find0 = X at y0 y1 y2 y3
    have HX := hide hX
    clear hX hcell
    have hps : p = 0 ∨ p = 1 ∨ p = 2 ∨ p = 3 ∨ p = 4 ∨ p = 5 := by omega
    rcases hps with hp | hp | hp | hp | hp | hp
    · subst hp
      have z0 := z (K * 4)
      have hq := hide (ownFi_set HO.out hkl 0 (by decide) (.int .i64 n) ⟨n, X.holds, X.fact, X.clause⟩ (by rw [HX.out]; rfl))
      have hbq := hide (below_set (j := K * 4 + 0) HB.out HG.out (.int .i64 n))
      try rw [Nat.add_zero] at hq hbq
      clear z
      go_wp2_with fail
      go_ret
      exact ownFi_ret hq.out hbq.out (by rw [List.length_set]; omega)
    · subst hp
      have z0 := z (K * 4 + 1)
      have hq := hide (ownFi_set HO.out hkl 1 (by decide) (.bool (!X.holds)) ⟨X.says, !X.holds, X.fact, X.clause⟩ (by rw [HX.out]; rfl))
      have hbq := hide (below_set (j := K * 4 + 1) HB.out HG.out (.bool (!X.holds)))
      try rw [Nat.add_zero] at hq hbq
      clear z
      go_wp2_with fail
      go_ret
      exact ownFi_ret hq.out hbq.out (by rw [List.length_set]; omega)
    · subst hp
      have z0 := z (K * 4 + 2)
      have hq := hide (ownFi_set HO.out hkl 2 (by decide) (.int .i64 n) ⟨X.says, X.holds, n, X.clause⟩ (by rw [HX.out]; rfl))
      have hbq := hide (below_set (j := K * 4 + 2) HB.out HG.out (.int .i64 n))
      try rw [Nat.add_zero] at hq hbq
      clear z
      go_wp2_with fail
      go_ret
      exact ownFi_ret hq.out hbq.out (by rw [List.length_set]; omega)
    · subst hp
      have z0 := z (K * 4 + 3)
      have hq := hide (ownFi_set HO.out hkl 3 (by decide) (.int .i64 n) ⟨X.says, X.holds, X.fact, n⟩ (by rw [HX.out]; rfl))
      have hbq := hide (below_set (j := K * 4 + 3) HB.out HG.out (.int .i64 n))
      try rw [Nat.add_zero] at hq hbq
      clear z
      go_wp2_with fail
      go_ret
      exact ownFi_ret hq.out hbq.out (by rw [List.length_set]; omega)
    · subst hp
      have hvc : l.length ≤ vc ∧ vc ≤ 9223372036854775807 := by
        rcases HO.out.1.2 with ⟨h1, -⟩ | ⟨g', c', cur, h1, -, -, h3, h4, -⟩
        · cases h1
        · rw [List.length_map] at h1 h3; cases h1; exact ⟨h3, by simpa [maxLen] using h4⟩
      have hcells : FindsIn w1.cell? (.slice (some ⟨g, 0, none⟩) l.length vc) l := (OwnFi.inF HO.out (Nat.zero_le _)).at
      obtain ⟨A, hA⟩ : ∃ A : Addr, (if vc = K + 1 then (some ⟨g, 0, none⟩ : Option Addr) else some ⟨g, (K + 1) * 4, none⟩) = some A := by have h := less_addr vc K g 0; simpa using h
      have HT := hide (fun W (hb : Below w1.heap.size w1 W) => less_take (hcells.below hb) K)
      have HD := hide (fun W (hb : Below w1.heap.size w1 W) => less_drop (hcells.below hb) hkl (A := A) (by rw [Nat.zero_add]; exact hA))
      have ht : (l.take K).length = K := by rw [List.length_take, Nat.min_eq_left (by omega)]
      have hd : (l.drop (K + 1)).length = l.length - (K + 1) := List.length_drop
      have ew : IntKind.i64.wrap ((K : Int) + 1) = ((K + 1 : Nat) : Int) := by rw [IntWalk.i64_in _ ⟨by omega, by omega⟩]; omega
      have h0k : 0 ≤ (K : Int) + 1 := by omega
      have h1k : (K : Int) + 1 ≤ (l.length : Int) := by omega
      have hkv : K ≤ vc := by omega
      have hkv1 : K + 1 ≤ vc := by omega
      have hkl1 : K + 1 ≤ l.length := by omega
      have HTD := hide (And.intro ht hd)
      have HE := hide (less_eq l K)
      have HCE := hide hcells
      clear hcells z y0 y1 y2 y3 ht hd
      rcases Nat.eq_zero_or_pos (l.length - (K + 1)) with hm | hm
      · go_wp2_with fail
        go_region_law (fail)
        go_wp2_with fail
        go_ret
        exact ⟨_, l.take K, rfl, finds_take ((OwnFi.inF HO.out (Nat.le_refl _)).keeps (keeps_frm_later fun j _ _ => rfl)) (by omega) (by omega), by rw [HTD.out.1]; omega, HB.out.drew⟩
      · obtain ⟨i0, hi, hz0, hz1, hz2⟩ := info_parts infoFind
        have hfl1 : Hid (((l.take K).map findC).flatten.length = K * 4) := hide (by rw [flat_len (k := 4) fun r hr => by obtain ⟨x, -, rfl⟩ := List.mem_map.1 hr; rfl, List.length_map, HTD.out.1])
        have hfl2 : Hid (((l.drop (K + 1)).map findC).flatten.length = (l.length - (K + 1)) * 4) := hide (by rw [flat_len (k := 4) fun r hr => by obtain ⟨x, -, rfl⟩ := List.mem_map.1 hr; rfl, List.length_map, HTD.out.2])
        have hml : Hid (K < K + (l.length - (K + 1))) := hide (by omega)
        have hmm : ¬ l.length - (K + 1) = 0 := by omega
        have hlj : Hid (K + (l.length - (K + 1)) = (l.take K ++ l.drop (K + 1)).length) := hide (by rw [List.length_append, HTD.out.1, HTD.out.2])
        go_wp2_with fail
        go_region_law (refine step_append_grows rfl (.tmp 76) (.tmp 80) 28 rfl 63 i0 find0V 4 32 Try.underlying28 hi hz0 hz1 hz2 rfl (by decide) (some ⟨g, 0, none⟩) K K ((l.take K).map findC).flatten (by simp [Act.eval, Act.put]) (fun h => by cases h) hfl1.out (fun b hb j u hj => by cases hb; exact HT.out _ (Below.refl _ _).drew j u hj) A (l.length - (K + 1)) (vc - (K + 1)) ((l.drop (K + 1)).map findC).flatten (by simp [Act.eval, Act.put]) hfl2.out (HD.out _ (Below.refl _ _).drew) (findC_one _) hml.out (by unfold maxLen; omega) (by omega) ?_; intro v2 w2 hO2 hg2; have hO3 := own_join hO2 hlj.out; obtain ⟨va2, vc2, e2⟩ := own_form hO3; obtain ⟨m6, hm6⟩ : ∃ m, ((l.take K ++ l.drop (K + 1)).map findC).length = m := ⟨_, rfl⟩; rw [hm6] at e2; subst e2; have HM6 := hide hm6; clear hm6)
        have HO3 := hide hO3
        have HB3 : Hid (Below w.heap.size w w2) := hide (HB.out.drew.grown hg2 HB.out.size (fun k hk => by cases hk))
        have HS3 := hide HB.out.size
        have hx := hlj.out
        clear hO2 hO3 hg2
        go_wp2_with fail
        go_ret
        exact ⟨_, _, rfl, OwnFi.inF HO3.out (show w.heap.size ≤ w1.drew.heap.size from HS3.out), by omega, HB3.out⟩
    · subst hp
      have z0 := z (K * 4)
      have z1 := z (K * 4 + 1)
      have z2 := z (K * 4 + 2)
      have z3 := z (K * 4 + 3)
      have s0 := ownFi_set HO.out hkl 0 (by decide) (.int .i64 X.says) X (by rw [HX.out]; rfl)
      have hl0 : (l.set K X).length = l.length := List.length_set
      have s1 := ownFi_set (l := l.set K X) (by rw [hl0]; exact s0) (by rw [hl0]; exact hkl) 1 (by decide) (.bool true) ⟨X.says, true, X.fact, X.clause⟩ (by rw [setC_eq hkl]; rfl)
      rw [List.set_set] at s1
      have hl1 : (l.set K ⟨X.says, true, X.fact, X.clause⟩).length = l.length := List.length_set
      have s2 := ownFi_set (l := l.set K ⟨X.says, true, X.fact, X.clause⟩) (by rw [hl1]; rw [hl0] at s1; exact s1) (by rw [hl1]; exact hkl) 2 (by decide) (.int .i64 (-1)) ⟨X.says, true, -1, X.clause⟩ (by rw [setC_eq hkl]; rfl)
      rw [List.set_set] at s2
      have hl2 : (l.set K ⟨X.says, true, -1, X.clause⟩).length = l.length := List.length_set
      have s3 := ownFi_set (l := l.set K ⟨X.says, true, -1, X.clause⟩) (by rw [hl2]; rw [hl1] at s2; exact s2) (by rw [hl2]; exact hkl) 3 (by decide) (.int .i64 n) ⟨X.says, true, -1, n⟩ (by rw [setC_eq hkl]; rfl)
      rw [List.set_set, hl2] at s3
      have HQ := hide s3
      have hbq := hide (below_set (j := K * 4 + 3) (below_set (j := K * 4 + 2) (below_set (j := K * 4 + 1) (below_set (j := K * 4 + 0) HB.out HG.out (.int .i64 X.says)) HG.out (.bool true)) HG.out (.int .i64 (-1))) HG.out (.int .i64 n))
      try rw [Nat.add_zero] at HQ hbq
      clear z s0 s1 s2 s3 hl0 hl1 hl2
      go_wp2_with fail
      go_ret
      exact ownFi_ret HQ.out hbq.out (by rw [List.length_set]; omega)
end Go.Proofs.Ytdjldidfnddpmaa
