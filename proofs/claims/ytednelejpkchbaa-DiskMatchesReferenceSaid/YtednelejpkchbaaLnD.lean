/- The walk of DiskMatchesReference. Conditions: that integers are of 64 bits; how the list lies in memory. -/
import Derived.Test.YtednelejpkchbaaLnC
namespace Go.Proofs.Ytednelejpkchbaa
open Go.RowKit

/-- a call as the law is handed it -/
structure SPar where
  call : Int
  off : Int
  n : Int
  s : ByteArray
  keep : List Int
def sp0 : SPar := ⟨0, 0, 0, ⟨#[]⟩, []⟩
def SParsAt (w : World) (v : Value) (l : List SPar) : Prop :=
  ∃ a n, v = .slice a l.length n ∧ l.length ≤ n ∧ n ≤ 9223372036854775807 ∧ ∀ k, k < l.length → (i64B (l.getD k sp0).call ∧ i64B (l.getD k sp0).off ∧ i64B (l.getD k sp0).n ∧ ((l.getD k sp0).s.size : Int) ≤ 9223372036854775807) ∧ ∃ b o ka kc, a = some ⟨b, o, none⟩ ∧
    w.cell? ⟨b, o + k * 5, none⟩ = some (.int .i64 (l.getD k sp0).call) ∧ w.cell? ⟨b, o + k * 5 + 1, none⟩ = some (.int .i64 (l.getD k sp0).off) ∧ w.cell? ⟨b, o + k * 5 + 2, none⟩ = some (.int .i64 (l.getD k sp0).n) ∧
    w.cell? ⟨b, o + k * 5 + 3, none⟩ = some (.string (l.getD k sp0).s) ∧ w.cell? ⟨b, o + k * 5 + 4, none⟩ = some (.slice ka (l.getD k sp0).keep.length kc) ∧ IntsAt w (.slice ka (l.getD k sp0).keep.length kc) (l.getD k sp0).keep
theorem ints_rng {w W : World} {v : Value} {l : List Int} (h : IntsAt w v l) (hb : Below w.heap.size w W) : IntsIn (rng 0 w.heap.size W) v l :=
  IntsIn.keeps (fun a u e => by
    have hl := lt_of_cell e
    unfold rng; rw [if_pos ⟨Nat.zero_le _, hl⟩, hb.cell hl]; exact e) h
theorem pend_form {w : World} {D U V : Nat} {pv : Value} {d : DiskD} (h : DiskAt w D U V pv d) : ∃ a c, pv = .slice a d.pend.length c := by
  rcases h.hP.form with ⟨rfl, e⟩ | ⟨g, q, cur, e, -⟩
  · have : d.pend = [] := by simpa using e
    rw [this]; exact ⟨none, 0, rfl⟩
  · exact ⟨some ⟨g, 0, none⟩, q, by simpa using e⟩
/-- both disks before a step, and behind it -/
def AftG (n : Nat) (w : World) (D U V X : Nat) (pv sv lv : Value) (d : DiskD) (k : Nat) : Bool → World → Prop
  | false, W => Both n w.heap.size W D U V pv X sv lv d (toR d) ∧ Below w.heap.size w W
  | true, W => ∃ pv' sv' lv' d', Both n w.heap.size W D U V pv' X sv' lv' d' (toR d') ∧ d'.vis = replay d'.dur d'.pend ∧ d'.pend.length ≤ k + 1 ∧ Below w.heap.size w W
section
variable {n : Nat} {w W : World} {D U V X : Nat} {pv sv lv : Value} {d : DiskD} {k : Nat} {b : Bool}
theorem AftG.below (h : AftG n w D U V X pv sv lv d k b W) : Below w.heap.size w W := by
  cases b
  · exact h.2
  · obtain ⟨_, _, _, _, _, _, _, h⟩ := h; exact h
theorem AftG.drew (h : AftG n w D U V X pv sv lv d k b W) : AftG n w D U V X pv sv lv d k b W.drew := by
  cases b
  · exact ⟨h.1.later (Below.refl _ _).drew, h.2.drew⟩
  · obtain ⟨p, s, l, d', h1, h2, h3, h4⟩ := h; exact ⟨p, s, l, d', h1.later (Below.refl _ _).drew, h2, h3, h4.drew⟩
theorem AftG.size (h : AftG n w D U V X pv sv lv d k b W) : W.cell? ⟨D, 2, none⟩ = some (.slice (some ⟨U, 0, none⟩) n n) := by
  have key : ∀ pv' sv' lv' d', Both n w.heap.size W D U V pv' X sv' lv' d' (toR d') → W.cell? ⟨D, 2, none⟩ = some (.slice (some ⟨U, 0, none⟩) n n) := fun pv' sv' lv' d' hB => by
    have := hB.A.hA.hD.cell 2 rfl
    rw [hB.A.dur] at this; exact this
  cases b
  · exact key _ _ _ _ h.1
  · obtain ⟨p, s, l, d', h1, -⟩ := h; exact key _ _ _ _ h1
theorem AftG.pend (hk : k ≤ 100) (h : AftG n w D U V X pv sv lv d k true W) : ∃ (q : Nat) (a : Option Addr) (c : Nat) (a2 : Option Addr) (c2 : Nat), (q : Int) ≤ 9223372036854775807 ∧ W.cell? ⟨D, 4, none⟩ = some (.slice a q c) ∧ W.cell? ⟨X, 1, none⟩ = some (.slice a2 q c2) := by
  obtain ⟨p, s, l, d', h1, -, h3, -⟩ := h
  obtain ⟨a, c, rfl⟩ := pend_form h1.A.hA
  obtain ⟨a2, c2, rfl⟩ := own_formE h1.R.hL (m := d'.pend.length) (by simp [toR])
  exact ⟨d'.pend.length, a, c, a2, c2, by omega, h1.A.hA.hD.cell 4 rfl, h1.R.hX.cell 1 rfl⟩
theorem AftG.of {e : Ending} (hd : d.pend.length ≤ k) (hb : Below w.heap.size w W) {W' : World} (h : StepQ n w.heap.size D U V X d W e W') : e = .returned (.bool true) ∧ AftG n w D U V X pv sv lv d k true W' := by
  obtain ⟨he, p, s, l, d', h1, h2, h3, h4⟩ := h
  exact ⟨he, p, s, l, d', h1, h2, by omega, hb.trans h4⟩
end
theorem sl_inj {x : Option Value} {a a' : Option Addr} {q q' c c' : Nat} (h : x = some (.slice a q c)) (h' : x = some (.slice a' q' c')) : a = a' ∧ q = q' ∧ c = c' := by
  have := h.symm.trans h'
  injection this with this
  injection this with h1 h2 h3
  exact ⟨h1, h2, h3⟩
set_option maxRecDepth 20000 in
set_option maxHeartbeats 4000000 in
theorem ref_any (size : Int) (l : List SPar) (lv : Value) (w : World) (h1 : i64B size) (hl : SParsAt w lv l) :
    Calls Try.prog 4 #[.int .i64 size, lv] w (Ret (.bool true) w) := by
  obtain ⟨la, lc, rfl, hlc, hlc2, hlw⟩ := hl
  have HLW := hide hlw
  clear hlw
  obtain ⟨n0, hn0, hn0'⟩ : ∃ n0 : Nat, pickF size 400 = n0 ∧ n0 < 400 := ⟨(pickF size 400).toNat, by have := pickF_nonneg size (n := 400) (by decide); omega, by have := pickF_lt size (n := 400) (by decide); omega⟩
  have HPK := hide (fun W => pick_any size 400 W h1.1 h1.2 (by decide) (by decide))
  rw [hn0] at HPK
  clear hn0
  go_enter Try.func4, Try.ntmps4
  go_wp2_with fail
  refine (sane_any w).mono ?_
  rintro e w1 ⟨rfl, hb1⟩
  go_wp2_with fail
  refine (HPK.out w1).mono ?_
  rintro e w2 ⟨rfl, hw2⟩
  obtain rfl := hw2.symm
  go_wp2_with fail
  refine (new_any (1 + (n0 : Int)) w1).mono ?_
  rintro e w2 (⟨hn, -, -⟩ | ⟨m, D, U, V, hm, hm1, hm2, rfl, hDB, hUB, hVB, hA, hL⟩)
  · exact absurd ⟨by omega, by omega⟩ hn
  rw [hm]
  have hO := on_new hA (Nat.le_trans hb1.size hDB) (Nat.le_trans hb1.size hUB) (Nat.le_trans hb1.size hVB)
  have hm3 : m ≤ 400 := by omega
  have hbw := below2 hb1 hL
  clear hb1 hm hA hDB hUB hVB hL
  go_wp2_with fail
  refine (rnew_any m w2 hm1 hm2).mono ?_
  rintro e w3 ⟨X, gs, rfl, hX, hgs, hR, hb3⟩
  have hap : ∀ x, DSet D U V (.slice none 0 0) x → ¬ RSet X (.slice (some ⟨gs, 0, none⟩) m m) (.slice none 0 0) x := by
    intro x hx hr
    have h0 := any_lt hO.any x hx
    rcases hr with rfl | hr | hr
    · omega
    · have : x = gs := Option.some.inj hr
      omega
    · cases hr
  have hlo : ∀ x, RSet X (.slice (some ⟨gs, 0, none⟩) m m) (.slice none 0 0) x → w.heap.size ≤ x := by
    intro x hr
    have hbs := hbw.size
    rcases hr with rfl | hr | hr
    · omega
    · have : x = gs := Option.some.inj hr
      omega
    · cases hr
  have hB : Both m w.heap.size w3 D U V (.slice none 0 0) X (.slice (some ⟨gs, 0, none⟩) m m) (.slice none 0 0) (disk0 m) (toR (disk0 m)) := ⟨hO.any.later hb3, hR, hap, hlo⟩
  have hbw3 := below2 hbw hb3
  clear hO hbw hX hgs hR hb3 hap hlo
  go_wp2_with fail
  go_loopw [10] (fun i wr => ∃ (k : Nat) (pv sv lv : Value) (d : DiskD), k ≤ l.length ∧ k ≤ 60 ∧ i = .int .i64 k ∧ Both m w.heap.size wr D U V pv X sv lv d (toR d) ∧ Hid (d.vis = replay d.dur d.pend ∧ d.pend.length ≤ k) ∧ Below w.heap.size w wr) (fun i _ => l.length - (intOf i).toNat)
  case atStart => exact ⟨0, _, _, _, _, by omega, by omega, rfl, hB, hide ⟨rfl, Nat.le_refl _⟩, hbw3⟩
  case round =>
    obtain ⟨k, pv, sv, lv, d, hk, hk60, rfl, hB, HPD, hbr⟩ := hrel
    have hlc3 : (l.length : Int) ≤ 9223372036854775807 := by omega
    by_cases hlt : k < l.length
    · by_cases h60 : k < 60
      · obtain ⟨⟨i1, i2, i3, i4⟩, bl, ol, ka, kc, rfl, cl0, cl1, cl2, cl3, cl4, hki⟩ := HLW.out k hlt
        have hst := fun W (hB' : Both m w.heap.size W D U V pv X sv lv d (toR d)) (hbW : Below w.heap.size w W) => step_any m w.heap.size D U V X pv sv lv d _ _ _ _ ka kc _ W hbW.size hm1 hm2 (by have := HPD.out; omega) hB' HPD.out.1 i1 i2 i3 i4 (ints_rng hki hbW)
        generalize l.getD k sp0 = p at *
        obtain ⟨yc, yo, yn, ys, K⟩ := p
        have HST := hide hst
        clear i1 i2 i3 i4 hki hst
        go_wp2_with fail
        refine wp_region_inv [some 45, some 46, some 47, some 48, some 49, some 50, some 51, some 52, some 53, some 54, some 55, some 56, some 57, some 58, some 59, some 60, some 61, some 62, some 63, some 64, some 65, some 66, some 67, some 68] (fun L vs W => match vs with | [x0, x1, x2, x3, x4, x5, x6, x7, x8, x9, x10, x11, x12, x13, x14, x15, x16, x17, x18, x19, x20, x21, x22, x23] => (AftG m w D U V X pv sv lv d k (L 6) W) ∧ (L 0 = true → x0 = .pointer (some ⟨D, 0, none⟩)) ∧ (L 1 = true → x1 = .pointer (some ⟨X, 0, none⟩)) ∧ (L 2 = true → x2 = .slice (some ⟨bl, ol, none⟩) l.length lc) ∧ (L 3 = true → x3 = .int .i64 k) ∧ (L 4 = true → x4 = .pointer (some ⟨bl, ol + k * 5, none⟩)) ∧ (L 5 = true → x5 = .agg #[.int .i64 yc, .int .i64 yo, .int .i64 yn, .string ys, .slice ka K.length kc]) ∧ (L 6 = true → x6 = .bool true) ∧ (L 7 = true → x7 = .bool false) ∧ (L 8 = true → L 6 = true ∧ x8 = .bool false) ∧ (L 9 = true → x9 = .pointer (some ⟨D, 0, none⟩)) ∧ (L 10 = true → L 6 = true ∧ ∃ (q : Nat) (a : Option Addr) (c : Nat), W.cell? ⟨D, 4, none⟩ = some (.slice a q c) ∧ x10 = .int .i64 q) ∧ (L 11 = true → x11 = .pointer (some ⟨X, 0, none⟩)) ∧ (L 12 = true → x12 = .pointer (some ⟨X, 0, none⟩)) ∧ (L 13 = true → x13 = .pointer (some ⟨X, 1, none⟩)) ∧ (L 14 = true → L 6 = true ∧ ∃ (q : Nat) (a : Option Addr) (c : Nat), W.cell? ⟨X, 1, none⟩ = some (.slice a q c) ∧ x14 = .slice a q c) ∧ (L 15 = true → L 6 = true ∧ ∃ (q : Nat) (a : Option Addr) (c : Nat), W.cell? ⟨X, 1, none⟩ = some (.slice a q c) ∧ x15 = .int .i64 q) ∧ (L 16 = true → x16 = .bool false) ∧ (L 17 = true → x17 = .bool false) ∧ (L 18 = true → x18 = .bool false) ∧ (L 19 = true → x19 = .pointer (some ⟨D, 0, none⟩)) ∧ (L 20 = true → x20 = .int .i64 m) ∧ (L 21 = true → x21 = .int .i64 m) ∧ (L 22 = true → x22 = .bool false) ∧ (L 23 = true → x23 = .bool false) | _ => False) [_, _, _, _, _, _, _, _, _, _, _, _, _, _, _, _, _, _, _, _, _, _, _, _] (by kernel_rfl) (by kernel_rfl) rfl (by simp only [puts, Act.put, List.setIfInBounds_toArray, List.set_cons_zero, List.set_cons_succ] <;> rfl) ?_ ?_ ?_
        · exact ⟨AftG.drew (b := false) ⟨hB, hbr⟩, (fun h => by cases h), (fun h => by cases h), (fun h => by cases h), (fun h => by cases h), (fun h => by cases h), (fun h => by cases h), (fun h => by cases h), (fun h => by cases h), (fun h => by cases h), (fun h => by cases h), (fun h => by cases h), (fun h => by cases h), (fun h => by cases h), (fun h => by cases h), (fun h => by cases h), (fun h => by cases h), (fun h => by cases h), (fun h => by cases h), (fun h => by cases h), (fun h => by cases h), (fun h => by cases h), (fun h => by cases h), (fun h => by cases h), (fun h => by cases h)⟩
        · refine ⟨?_, ?_, ?_, ?_, ?_, ?_, ?_, ?_, ?_, ?_, ?_, ?_, ?_, ?_, ?_, ?_, ?_, ?_, ?_, ?_, ?_, ?_, ?_, ?_, trivial⟩
          · intro L vs W hlen hL hD hI K hK
            obtain ⟨x0, x1, x2, x3, x4, x5, x6, x7, x8, x9, x10, x11, x12, x13, x14, x15, x16, x17, x18, x19, x20, x21, x22, x23, rfl⟩ := len24 hlen
            have hG := hI.1
            replace hI := hI.2
            have f0 := hide hI.1
            replace hI := hI.2
            have f1 := hide hI.1
            replace hI := hI.2
            have f2 := hide hI.1
            replace hI := hI.2
            have f3 := hide hI.1
            replace hI := hI.2
            have f4 := hide hI.1
            replace hI := hI.2
            have f5 := hide hI.1
            replace hI := hI.2
            have f6 := hide hI.1
            replace hI := hI.2
            have f7 := hide hI.1
            replace hI := hI.2
            have f8 := hide hI.1
            replace hI := hI.2
            have f9 := hide hI.1
            replace hI := hI.2
            have f10 := hide hI.1
            replace hI := hI.2
            have f11 := hide hI.1
            replace hI := hI.2
            have f12 := hide hI.1
            replace hI := hI.2
            have f13 := hide hI.1
            replace hI := hI.2
            have f14 := hide hI.1
            replace hI := hI.2
            have f15 := hide hI.1
            replace hI := hI.2
            have f16 := hide hI.1
            replace hI := hI.2
            have f17 := hide hI.1
            replace hI := hI.2
            have f18 := hide hI.1
            replace hI := hI.2
            have f19 := hide hI.1
            replace hI := hI.2
            have f20 := hide hI.1
            replace hI := hI.2
            have f21 := hide hI.1
            replace hI := hI.2
            have f22 := hide hI.1
            replace hI := hI.2
            have f23 := hide hI
            clear hI
            have q0 := (hG.below.cell (p := ⟨bl, ol + k * 5, none⟩) (lt_of_cell cl0)).trans cl0
            have q1 := (hG.below.cell (p := ⟨bl, ol + k * 5 + 1, none⟩) (lt_of_cell cl1)).trans cl1
            have q2 := (hG.below.cell (p := ⟨bl, ol + k * 5 + 2, none⟩) (lt_of_cell cl2)).trans cl2
            have q3 := (hG.below.cell (p := ⟨bl, ol + k * 5 + 3, none⟩) (lt_of_cell cl3)).trans cl3
            have q4 := (hG.below.cell (p := ⟨bl, ol + k * 5 + 4, none⟩) (lt_of_cell cl4)).trans cl4
            try simp only [puts, Act.put, List.setIfInBounds_toArray, List.set_cons_zero, List.set_cons_succ]
            try go_simp
            exact hK.out _ _ _ (by simp only [puts, Act.put, List.setIfInBounds_toArray, List.set_cons_zero, List.set_cons_succ] <;> rfl) ⟨hG, (fun _ => rfl), (fun h => f1.out h), (fun h => f2.out h), (fun h => f3.out h), (fun h => f4.out h), (fun h => f5.out h), (fun h => f6.out h), (fun h => f7.out h), (fun h => f8.out h), (fun h => f9.out h), (fun h => f10.out h), (fun h => f11.out h), (fun h => f12.out h), (fun h => f13.out h), (fun h => f14.out h), (fun h => f15.out h), (fun h => f16.out h), (fun h => f17.out h), (fun h => f18.out h), (fun h => f19.out h), (fun h => f20.out h), (fun h => f21.out h), (fun h => f22.out h), (fun h => f23.out h)⟩
          · intro L vs W hlen hL hD hI K hK
            obtain ⟨x0, x1, x2, x3, x4, x5, x6, x7, x8, x9, x10, x11, x12, x13, x14, x15, x16, x17, x18, x19, x20, x21, x22, x23, rfl⟩ := len24 hlen
            have hG := hI.1
            replace hI := hI.2
            have f0 := hide hI.1
            replace hI := hI.2
            have f1 := hide hI.1
            replace hI := hI.2
            have f2 := hide hI.1
            replace hI := hI.2
            have f3 := hide hI.1
            replace hI := hI.2
            have f4 := hide hI.1
            replace hI := hI.2
            have f5 := hide hI.1
            replace hI := hI.2
            have f6 := hide hI.1
            replace hI := hI.2
            have f7 := hide hI.1
            replace hI := hI.2
            have f8 := hide hI.1
            replace hI := hI.2
            have f9 := hide hI.1
            replace hI := hI.2
            have f10 := hide hI.1
            replace hI := hI.2
            have f11 := hide hI.1
            replace hI := hI.2
            have f12 := hide hI.1
            replace hI := hI.2
            have f13 := hide hI.1
            replace hI := hI.2
            have f14 := hide hI.1
            replace hI := hI.2
            have f15 := hide hI.1
            replace hI := hI.2
            have f16 := hide hI.1
            replace hI := hI.2
            have f17 := hide hI.1
            replace hI := hI.2
            have f18 := hide hI.1
            replace hI := hI.2
            have f19 := hide hI.1
            replace hI := hI.2
            have f20 := hide hI.1
            replace hI := hI.2
            have f21 := hide hI.1
            replace hI := hI.2
            have f22 := hide hI.1
            replace hI := hI.2
            have f23 := hide hI
            clear hI
            have q0 := (hG.below.cell (p := ⟨bl, ol + k * 5, none⟩) (lt_of_cell cl0)).trans cl0
            have q1 := (hG.below.cell (p := ⟨bl, ol + k * 5 + 1, none⟩) (lt_of_cell cl1)).trans cl1
            have q2 := (hG.below.cell (p := ⟨bl, ol + k * 5 + 2, none⟩) (lt_of_cell cl2)).trans cl2
            have q3 := (hG.below.cell (p := ⟨bl, ol + k * 5 + 3, none⟩) (lt_of_cell cl3)).trans cl3
            have q4 := (hG.below.cell (p := ⟨bl, ol + k * 5 + 4, none⟩) (lt_of_cell cl4)).trans cl4
            try simp only [puts, Act.put, List.setIfInBounds_toArray, List.set_cons_zero, List.set_cons_succ]
            try go_simp
            exact hK.out _ _ _ (by simp only [puts, Act.put, List.setIfInBounds_toArray, List.set_cons_zero, List.set_cons_succ] <;> rfl) ⟨hG, (fun h => f0.out h), (fun _ => rfl), (fun h => f2.out h), (fun h => f3.out h), (fun h => f4.out h), (fun h => f5.out h), (fun h => f6.out h), (fun h => f7.out h), (fun h => f8.out h), (fun h => f9.out h), (fun h => f10.out h), (fun h => f11.out h), (fun h => f12.out h), (fun h => f13.out h), (fun h => f14.out h), (fun h => f15.out h), (fun h => f16.out h), (fun h => f17.out h), (fun h => f18.out h), (fun h => f19.out h), (fun h => f20.out h), (fun h => f21.out h), (fun h => f22.out h), (fun h => f23.out h)⟩
          · intro L vs W hlen hL hD hI K hK
            obtain ⟨x0, x1, x2, x3, x4, x5, x6, x7, x8, x9, x10, x11, x12, x13, x14, x15, x16, x17, x18, x19, x20, x21, x22, x23, rfl⟩ := len24 hlen
            have hG := hI.1
            replace hI := hI.2
            have f0 := hide hI.1
            replace hI := hI.2
            have f1 := hide hI.1
            replace hI := hI.2
            have f2 := hide hI.1
            replace hI := hI.2
            have f3 := hide hI.1
            replace hI := hI.2
            have f4 := hide hI.1
            replace hI := hI.2
            have f5 := hide hI.1
            replace hI := hI.2
            have f6 := hide hI.1
            replace hI := hI.2
            have f7 := hide hI.1
            replace hI := hI.2
            have f8 := hide hI.1
            replace hI := hI.2
            have f9 := hide hI.1
            replace hI := hI.2
            have f10 := hide hI.1
            replace hI := hI.2
            have f11 := hide hI.1
            replace hI := hI.2
            have f12 := hide hI.1
            replace hI := hI.2
            have f13 := hide hI.1
            replace hI := hI.2
            have f14 := hide hI.1
            replace hI := hI.2
            have f15 := hide hI.1
            replace hI := hI.2
            have f16 := hide hI.1
            replace hI := hI.2
            have f17 := hide hI.1
            replace hI := hI.2
            have f18 := hide hI.1
            replace hI := hI.2
            have f19 := hide hI.1
            replace hI := hI.2
            have f20 := hide hI.1
            replace hI := hI.2
            have f21 := hide hI.1
            replace hI := hI.2
            have f22 := hide hI.1
            replace hI := hI.2
            have f23 := hide hI
            clear hI
            have q0 := (hG.below.cell (p := ⟨bl, ol + k * 5, none⟩) (lt_of_cell cl0)).trans cl0
            have q1 := (hG.below.cell (p := ⟨bl, ol + k * 5 + 1, none⟩) (lt_of_cell cl1)).trans cl1
            have q2 := (hG.below.cell (p := ⟨bl, ol + k * 5 + 2, none⟩) (lt_of_cell cl2)).trans cl2
            have q3 := (hG.below.cell (p := ⟨bl, ol + k * 5 + 3, none⟩) (lt_of_cell cl3)).trans cl3
            have q4 := (hG.below.cell (p := ⟨bl, ol + k * 5 + 4, none⟩) (lt_of_cell cl4)).trans cl4
            try simp only [puts, Act.put, List.setIfInBounds_toArray, List.set_cons_zero, List.set_cons_succ]
            try go_simp
            exact hK.out _ _ _ (by simp only [puts, Act.put, List.setIfInBounds_toArray, List.set_cons_zero, List.set_cons_succ] <;> rfl) ⟨hG, (fun h => f0.out h), (fun h => f1.out h), (fun _ => rfl), (fun h => f3.out h), (fun h => f4.out h), (fun h => f5.out h), (fun h => f6.out h), (fun h => f7.out h), (fun h => f8.out h), (fun h => f9.out h), (fun h => f10.out h), (fun h => f11.out h), (fun h => f12.out h), (fun h => f13.out h), (fun h => f14.out h), (fun h => f15.out h), (fun h => f16.out h), (fun h => f17.out h), (fun h => f18.out h), (fun h => f19.out h), (fun h => f20.out h), (fun h => f21.out h), (fun h => f22.out h), (fun h => f23.out h)⟩
          · intro L vs W hlen hL hD hI K hK
            obtain ⟨x0, x1, x2, x3, x4, x5, x6, x7, x8, x9, x10, x11, x12, x13, x14, x15, x16, x17, x18, x19, x20, x21, x22, x23, rfl⟩ := len24 hlen
            have hG := hI.1
            replace hI := hI.2
            have f0 := hide hI.1
            replace hI := hI.2
            have f1 := hide hI.1
            replace hI := hI.2
            have f2 := hide hI.1
            replace hI := hI.2
            have f3 := hide hI.1
            replace hI := hI.2
            have f4 := hide hI.1
            replace hI := hI.2
            have f5 := hide hI.1
            replace hI := hI.2
            have f6 := hide hI.1
            replace hI := hI.2
            have f7 := hide hI.1
            replace hI := hI.2
            have f8 := hide hI.1
            replace hI := hI.2
            have f9 := hide hI.1
            replace hI := hI.2
            have f10 := hide hI.1
            replace hI := hI.2
            have f11 := hide hI.1
            replace hI := hI.2
            have f12 := hide hI.1
            replace hI := hI.2
            have f13 := hide hI.1
            replace hI := hI.2
            have f14 := hide hI.1
            replace hI := hI.2
            have f15 := hide hI.1
            replace hI := hI.2
            have f16 := hide hI.1
            replace hI := hI.2
            have f17 := hide hI.1
            replace hI := hI.2
            have f18 := hide hI.1
            replace hI := hI.2
            have f19 := hide hI.1
            replace hI := hI.2
            have f20 := hide hI.1
            replace hI := hI.2
            have f21 := hide hI.1
            replace hI := hI.2
            have f22 := hide hI.1
            replace hI := hI.2
            have f23 := hide hI
            clear hI
            have q0 := (hG.below.cell (p := ⟨bl, ol + k * 5, none⟩) (lt_of_cell cl0)).trans cl0
            have q1 := (hG.below.cell (p := ⟨bl, ol + k * 5 + 1, none⟩) (lt_of_cell cl1)).trans cl1
            have q2 := (hG.below.cell (p := ⟨bl, ol + k * 5 + 2, none⟩) (lt_of_cell cl2)).trans cl2
            have q3 := (hG.below.cell (p := ⟨bl, ol + k * 5 + 3, none⟩) (lt_of_cell cl3)).trans cl3
            have q4 := (hG.below.cell (p := ⟨bl, ol + k * 5 + 4, none⟩) (lt_of_cell cl4)).trans cl4
            try simp only [puts, Act.put, List.setIfInBounds_toArray, List.set_cons_zero, List.set_cons_succ]
            try go_simp
            exact hK.out _ _ _ (by simp only [puts, Act.put, List.setIfInBounds_toArray, List.set_cons_zero, List.set_cons_succ] <;> rfl) ⟨hG, (fun h => f0.out h), (fun h => f1.out h), (fun h => f2.out h), (fun _ => rfl), (fun h => f4.out h), (fun h => f5.out h), (fun h => f6.out h), (fun h => f7.out h), (fun h => f8.out h), (fun h => f9.out h), (fun h => f10.out h), (fun h => f11.out h), (fun h => f12.out h), (fun h => f13.out h), (fun h => f14.out h), (fun h => f15.out h), (fun h => f16.out h), (fun h => f17.out h), (fun h => f18.out h), (fun h => f19.out h), (fun h => f20.out h), (fun h => f21.out h), (fun h => f22.out h), (fun h => f23.out h)⟩
          · intro L vs W hlen hL hD hI K hK
            obtain ⟨x0, x1, x2, x3, x4, x5, x6, x7, x8, x9, x10, x11, x12, x13, x14, x15, x16, x17, x18, x19, x20, x21, x22, x23, rfl⟩ := len24 hlen
            have hG := hI.1
            replace hI := hI.2
            have f0 := hide hI.1
            replace hI := hI.2
            have f1 := hide hI.1
            replace hI := hI.2
            have f2 := hide hI.1
            replace hI := hI.2
            have f3 := hide hI.1
            replace hI := hI.2
            have f4 := hide hI.1
            replace hI := hI.2
            have f5 := hide hI.1
            replace hI := hI.2
            have f6 := hide hI.1
            replace hI := hI.2
            have f7 := hide hI.1
            replace hI := hI.2
            have f8 := hide hI.1
            replace hI := hI.2
            have f9 := hide hI.1
            replace hI := hI.2
            have f10 := hide hI.1
            replace hI := hI.2
            have f11 := hide hI.1
            replace hI := hI.2
            have f12 := hide hI.1
            replace hI := hI.2
            have f13 := hide hI.1
            replace hI := hI.2
            have f14 := hide hI.1
            replace hI := hI.2
            have f15 := hide hI.1
            replace hI := hI.2
            have f16 := hide hI.1
            replace hI := hI.2
            have f17 := hide hI.1
            replace hI := hI.2
            have f18 := hide hI.1
            replace hI := hI.2
            have f19 := hide hI.1
            replace hI := hI.2
            have f20 := hide hI.1
            replace hI := hI.2
            have f21 := hide hI.1
            replace hI := hI.2
            have f22 := hide hI.1
            replace hI := hI.2
            have f23 := hide hI
            clear hI
            have q0 := (hG.below.cell (p := ⟨bl, ol + k * 5, none⟩) (lt_of_cell cl0)).trans cl0
            have q1 := (hG.below.cell (p := ⟨bl, ol + k * 5 + 1, none⟩) (lt_of_cell cl1)).trans cl1
            have q2 := (hG.below.cell (p := ⟨bl, ol + k * 5 + 2, none⟩) (lt_of_cell cl2)).trans cl2
            have q3 := (hG.below.cell (p := ⟨bl, ol + k * 5 + 3, none⟩) (lt_of_cell cl3)).trans cl3
            have q4 := (hG.below.cell (p := ⟨bl, ol + k * 5 + 4, none⟩) (lt_of_cell cl4)).trans cl4
            obtain rfl := f2.out (hD.on 2 (by kernel_rfl))
            obtain rfl := f3.out (hD.on 3 (by kernel_rfl))
            try simp only [puts, Act.put, List.setIfInBounds_toArray, List.set_cons_zero, List.set_cons_succ]
            try go_simp
            exact hK.out _ _ _ (by simp only [puts, Act.put, List.setIfInBounds_toArray, List.set_cons_zero, List.set_cons_succ] <;> rfl) ⟨hG, (fun h => f0.out h), (fun h => f1.out h), (fun h => f2.out h), (fun h => f3.out h), (fun _ => rfl), (fun h => f5.out h), (fun h => f6.out h), (fun h => f7.out h), (fun h => f8.out h), (fun h => f9.out h), (fun h => f10.out h), (fun h => f11.out h), (fun h => f12.out h), (fun h => f13.out h), (fun h => f14.out h), (fun h => f15.out h), (fun h => f16.out h), (fun h => f17.out h), (fun h => f18.out h), (fun h => f19.out h), (fun h => f20.out h), (fun h => f21.out h), (fun h => f22.out h), (fun h => f23.out h)⟩
          · intro L vs W hlen hL hD hI K hK
            obtain ⟨x0, x1, x2, x3, x4, x5, x6, x7, x8, x9, x10, x11, x12, x13, x14, x15, x16, x17, x18, x19, x20, x21, x22, x23, rfl⟩ := len24 hlen
            have hG := hI.1
            replace hI := hI.2
            have f0 := hide hI.1
            replace hI := hI.2
            have f1 := hide hI.1
            replace hI := hI.2
            have f2 := hide hI.1
            replace hI := hI.2
            have f3 := hide hI.1
            replace hI := hI.2
            have f4 := hide hI.1
            replace hI := hI.2
            have f5 := hide hI.1
            replace hI := hI.2
            have f6 := hide hI.1
            replace hI := hI.2
            have f7 := hide hI.1
            replace hI := hI.2
            have f8 := hide hI.1
            replace hI := hI.2
            have f9 := hide hI.1
            replace hI := hI.2
            have f10 := hide hI.1
            replace hI := hI.2
            have f11 := hide hI.1
            replace hI := hI.2
            have f12 := hide hI.1
            replace hI := hI.2
            have f13 := hide hI.1
            replace hI := hI.2
            have f14 := hide hI.1
            replace hI := hI.2
            have f15 := hide hI.1
            replace hI := hI.2
            have f16 := hide hI.1
            replace hI := hI.2
            have f17 := hide hI.1
            replace hI := hI.2
            have f18 := hide hI.1
            replace hI := hI.2
            have f19 := hide hI.1
            replace hI := hI.2
            have f20 := hide hI.1
            replace hI := hI.2
            have f21 := hide hI.1
            replace hI := hI.2
            have f22 := hide hI.1
            replace hI := hI.2
            have f23 := hide hI
            clear hI
            have q0 := (hG.below.cell (p := ⟨bl, ol + k * 5, none⟩) (lt_of_cell cl0)).trans cl0
            have q1 := (hG.below.cell (p := ⟨bl, ol + k * 5 + 1, none⟩) (lt_of_cell cl1)).trans cl1
            have q2 := (hG.below.cell (p := ⟨bl, ol + k * 5 + 2, none⟩) (lt_of_cell cl2)).trans cl2
            have q3 := (hG.below.cell (p := ⟨bl, ol + k * 5 + 3, none⟩) (lt_of_cell cl3)).trans cl3
            have q4 := (hG.below.cell (p := ⟨bl, ol + k * 5 + 4, none⟩) (lt_of_cell cl4)).trans cl4
            obtain rfl := f4.out (hD.on 4 (by kernel_rfl))
            try simp only [puts, Act.put, List.setIfInBounds_toArray, List.set_cons_zero, List.set_cons_succ]
            try go_simp
            exact hK.out _ _ _ (by simp only [puts, Act.put, List.setIfInBounds_toArray, List.set_cons_zero, List.set_cons_succ] <;> rfl) ⟨hG, (fun h => f0.out h), (fun h => f1.out h), (fun h => f2.out h), (fun h => f3.out h), (fun h => f4.out h), (fun _ => rfl), (fun h => f6.out h), (fun h => f7.out h), (fun h => f8.out h), (fun h => f9.out h), (fun h => f10.out h), (fun h => f11.out h), (fun h => f12.out h), (fun h => f13.out h), (fun h => f14.out h), (fun h => f15.out h), (fun h => f16.out h), (fun h => f17.out h), (fun h => f18.out h), (fun h => f19.out h), (fun h => f20.out h), (fun h => f21.out h), (fun h => f22.out h), (fun h => f23.out h)⟩
          · intro L vs W hlen hL hD hI K hK
            obtain ⟨x0, x1, x2, x3, x4, x5, x6, x7, x8, x9, x10, x11, x12, x13, x14, x15, x16, x17, x18, x19, x20, x21, x22, x23, rfl⟩ := len24 hlen
            have hG := hI.1
            replace hI := hI.2
            have f0 := hide hI.1
            replace hI := hI.2
            have f1 := hide hI.1
            replace hI := hI.2
            have f2 := hide hI.1
            replace hI := hI.2
            have f3 := hide hI.1
            replace hI := hI.2
            have f4 := hide hI.1
            replace hI := hI.2
            have f5 := hide hI.1
            replace hI := hI.2
            have f6 := hide hI.1
            replace hI := hI.2
            have f7 := hide hI.1
            replace hI := hI.2
            have f8 := hide hI.1
            replace hI := hI.2
            have f9 := hide hI.1
            replace hI := hI.2
            have f10 := hide hI.1
            replace hI := hI.2
            have f11 := hide hI.1
            replace hI := hI.2
            have f12 := hide hI.1
            replace hI := hI.2
            have f13 := hide hI.1
            replace hI := hI.2
            have f14 := hide hI.1
            replace hI := hI.2
            have f15 := hide hI.1
            replace hI := hI.2
            have f16 := hide hI.1
            replace hI := hI.2
            have f17 := hide hI.1
            replace hI := hI.2
            have f18 := hide hI.1
            replace hI := hI.2
            have f19 := hide hI.1
            replace hI := hI.2
            have f20 := hide hI.1
            replace hI := hI.2
            have f21 := hide hI.1
            replace hI := hI.2
            have f22 := hide hI.1
            replace hI := hI.2
            have f23 := hide hI
            clear hI
            have q0 := (hG.below.cell (p := ⟨bl, ol + k * 5, none⟩) (lt_of_cell cl0)).trans cl0
            have q1 := (hG.below.cell (p := ⟨bl, ol + k * 5 + 1, none⟩) (lt_of_cell cl1)).trans cl1
            have q2 := (hG.below.cell (p := ⟨bl, ol + k * 5 + 2, none⟩) (lt_of_cell cl2)).trans cl2
            have q3 := (hG.below.cell (p := ⟨bl, ol + k * 5 + 3, none⟩) (lt_of_cell cl3)).trans cl3
            have q4 := (hG.below.cell (p := ⟨bl, ol + k * 5 + 4, none⟩) (lt_of_cell cl4)).trans cl4
            obtain rfl := f0.out (hD.on 0 (by kernel_rfl))
            obtain rfl := f1.out (hD.on 1 (by kernel_rfl))
            obtain rfl := f5.out (hD.on 5 (by kernel_rfl))
            try simp only [puts, Act.put, List.setIfInBounds_toArray, List.set_cons_zero, List.set_cons_succ]
            try go_simp
            rw [hL] at hG
            refine (HST.out W hG.1 hG.2).mono ?_
            rintro e W' hq
            obtain ⟨rfl, hG2⟩ := AftG.of (pv := pv) (sv := sv) (lv := lv) HPD.out.2 hG.2 hq
            try go_simp
            exact hK.out _ _ _ (by simp only [puts, Act.put, List.setIfInBounds_toArray, List.set_cons_zero, List.set_cons_succ] <;> rfl) ⟨hG2, (fun h => f0.out h), (fun h => f1.out h), (fun h => f2.out h), (fun h => f3.out h), (fun h => f4.out h), (fun h => f5.out h), (fun _ => rfl), (fun h => f7.out h), (fun h => (fun h => absurd (h.1.symm.trans hL) (by decide)) (f8.out h)), (fun h => f9.out h), (fun h => (fun h => absurd (h.1.symm.trans hL) (by decide)) (f10.out h)), (fun h => f11.out h), (fun h => f12.out h), (fun h => f13.out h), (fun h => (fun h => absurd (h.1.symm.trans hL) (by decide)) (f14.out h)), (fun h => (fun h => absurd (h.1.symm.trans hL) (by decide)) (f15.out h)), (fun h => f16.out h), (fun h => f17.out h), (fun h => f18.out h), (fun h => f19.out h), (fun h => f20.out h), (fun h => f21.out h), (fun h => f22.out h), (fun h => f23.out h)⟩
          · intro L vs W hlen hL hD hI K hK
            obtain ⟨x0, x1, x2, x3, x4, x5, x6, x7, x8, x9, x10, x11, x12, x13, x14, x15, x16, x17, x18, x19, x20, x21, x22, x23, rfl⟩ := len24 hlen
            have hG := hI.1
            replace hI := hI.2
            have f0 := hide hI.1
            replace hI := hI.2
            have f1 := hide hI.1
            replace hI := hI.2
            have f2 := hide hI.1
            replace hI := hI.2
            have f3 := hide hI.1
            replace hI := hI.2
            have f4 := hide hI.1
            replace hI := hI.2
            have f5 := hide hI.1
            replace hI := hI.2
            have f6 := hide hI.1
            replace hI := hI.2
            have f7 := hide hI.1
            replace hI := hI.2
            have f8 := hide hI.1
            replace hI := hI.2
            have f9 := hide hI.1
            replace hI := hI.2
            have f10 := hide hI.1
            replace hI := hI.2
            have f11 := hide hI.1
            replace hI := hI.2
            have f12 := hide hI.1
            replace hI := hI.2
            have f13 := hide hI.1
            replace hI := hI.2
            have f14 := hide hI.1
            replace hI := hI.2
            have f15 := hide hI.1
            replace hI := hI.2
            have f16 := hide hI.1
            replace hI := hI.2
            have f17 := hide hI.1
            replace hI := hI.2
            have f18 := hide hI.1
            replace hI := hI.2
            have f19 := hide hI.1
            replace hI := hI.2
            have f20 := hide hI.1
            replace hI := hI.2
            have f21 := hide hI.1
            replace hI := hI.2
            have f22 := hide hI.1
            replace hI := hI.2
            have f23 := hide hI
            clear hI
            have q0 := (hG.below.cell (p := ⟨bl, ol + k * 5, none⟩) (lt_of_cell cl0)).trans cl0
            have q1 := (hG.below.cell (p := ⟨bl, ol + k * 5 + 1, none⟩) (lt_of_cell cl1)).trans cl1
            have q2 := (hG.below.cell (p := ⟨bl, ol + k * 5 + 2, none⟩) (lt_of_cell cl2)).trans cl2
            have q3 := (hG.below.cell (p := ⟨bl, ol + k * 5 + 3, none⟩) (lt_of_cell cl3)).trans cl3
            have q4 := (hG.below.cell (p := ⟨bl, ol + k * 5 + 4, none⟩) (lt_of_cell cl4)).trans cl4
            obtain rfl := f6.out (hD.on 6 (by kernel_rfl))
            try simp only [puts, Act.put, List.setIfInBounds_toArray, List.set_cons_zero, List.set_cons_succ]
            try go_simp
            exact hK.out _ _ _ (by simp only [puts, Act.put, List.setIfInBounds_toArray, List.set_cons_zero, List.set_cons_succ] <;> rfl) ⟨hG, (fun h => f0.out h), (fun h => f1.out h), (fun h => f2.out h), (fun h => f3.out h), (fun h => f4.out h), (fun h => f5.out h), (fun h => f6.out h), (fun _ => rfl), (fun h => f8.out h), (fun h => f9.out h), (fun h => f10.out h), (fun h => f11.out h), (fun h => f12.out h), (fun h => f13.out h), (fun h => f14.out h), (fun h => f15.out h), (fun h => f16.out h), (fun h => f17.out h), (fun h => f18.out h), (fun h => f19.out h), (fun h => f20.out h), (fun h => f21.out h), (fun h => f22.out h), (fun h => f23.out h)⟩
          · intro L vs W hlen hL hD hI K hK
            obtain ⟨x0, x1, x2, x3, x4, x5, x6, x7, x8, x9, x10, x11, x12, x13, x14, x15, x16, x17, x18, x19, x20, x21, x22, x23, rfl⟩ := len24 hlen
            have hG := hI.1
            replace hI := hI.2
            have f0 := hide hI.1
            replace hI := hI.2
            have f1 := hide hI.1
            replace hI := hI.2
            have f2 := hide hI.1
            replace hI := hI.2
            have f3 := hide hI.1
            replace hI := hI.2
            have f4 := hide hI.1
            replace hI := hI.2
            have f5 := hide hI.1
            replace hI := hI.2
            have f6 := hide hI.1
            replace hI := hI.2
            have f7 := hide hI.1
            replace hI := hI.2
            have f8 := hide hI.1
            replace hI := hI.2
            have f9 := hide hI.1
            replace hI := hI.2
            have f10 := hide hI.1
            replace hI := hI.2
            have f11 := hide hI.1
            replace hI := hI.2
            have f12 := hide hI.1
            replace hI := hI.2
            have f13 := hide hI.1
            replace hI := hI.2
            have f14 := hide hI.1
            replace hI := hI.2
            have f15 := hide hI.1
            replace hI := hI.2
            have f16 := hide hI.1
            replace hI := hI.2
            have f17 := hide hI.1
            replace hI := hI.2
            have f18 := hide hI.1
            replace hI := hI.2
            have f19 := hide hI.1
            replace hI := hI.2
            have f20 := hide hI.1
            replace hI := hI.2
            have f21 := hide hI.1
            replace hI := hI.2
            have f22 := hide hI.1
            replace hI := hI.2
            have f23 := hide hI
            clear hI
            have q0 := (hG.below.cell (p := ⟨bl, ol + k * 5, none⟩) (lt_of_cell cl0)).trans cl0
            have q1 := (hG.below.cell (p := ⟨bl, ol + k * 5 + 1, none⟩) (lt_of_cell cl1)).trans cl1
            have q2 := (hG.below.cell (p := ⟨bl, ol + k * 5 + 2, none⟩) (lt_of_cell cl2)).trans cl2
            have q3 := (hG.below.cell (p := ⟨bl, ol + k * 5 + 3, none⟩) (lt_of_cell cl3)).trans cl3
            have q4 := (hG.below.cell (p := ⟨bl, ol + k * 5 + 4, none⟩) (lt_of_cell cl4)).trans cl4
            obtain rfl := f7.out (hD.on 7 (by kernel_rfl))
            try simp only [puts, Act.put, List.setIfInBounds_toArray, List.set_cons_zero, List.set_cons_succ]
            try go_simp
            exact hK.out _ _ _ (by simp only [puts, Act.put, List.setIfInBounds_toArray, List.set_cons_zero, List.set_cons_succ] <;> rfl) ⟨hG, (fun h => f0.out h), (fun h => f1.out h), (fun h => f2.out h), (fun h => f3.out h), (fun h => f4.out h), (fun h => f5.out h), (fun h => f6.out h), (fun h => f7.out h), (fun _ => ⟨hD.on 6 (by kernel_rfl), rfl⟩), (fun h => f9.out h), (fun h => f10.out h), (fun h => f11.out h), (fun h => f12.out h), (fun h => f13.out h), (fun h => f14.out h), (fun h => f15.out h), (fun h => f16.out h), (fun h => f17.out h), (fun h => f18.out h), (fun h => f19.out h), (fun h => f20.out h), (fun h => f21.out h), (fun h => f22.out h), (fun h => f23.out h)⟩
          · intro L vs W hlen hL hD hI K hK
            obtain ⟨x0, x1, x2, x3, x4, x5, x6, x7, x8, x9, x10, x11, x12, x13, x14, x15, x16, x17, x18, x19, x20, x21, x22, x23, rfl⟩ := len24 hlen
            have hG := hI.1
            replace hI := hI.2
            have f0 := hide hI.1
            replace hI := hI.2
            have f1 := hide hI.1
            replace hI := hI.2
            have f2 := hide hI.1
            replace hI := hI.2
            have f3 := hide hI.1
            replace hI := hI.2
            have f4 := hide hI.1
            replace hI := hI.2
            have f5 := hide hI.1
            replace hI := hI.2
            have f6 := hide hI.1
            replace hI := hI.2
            have f7 := hide hI.1
            replace hI := hI.2
            have f8 := hide hI.1
            replace hI := hI.2
            have f9 := hide hI.1
            replace hI := hI.2
            have f10 := hide hI.1
            replace hI := hI.2
            have f11 := hide hI.1
            replace hI := hI.2
            have f12 := hide hI.1
            replace hI := hI.2
            have f13 := hide hI.1
            replace hI := hI.2
            have f14 := hide hI.1
            replace hI := hI.2
            have f15 := hide hI.1
            replace hI := hI.2
            have f16 := hide hI.1
            replace hI := hI.2
            have f17 := hide hI.1
            replace hI := hI.2
            have f18 := hide hI.1
            replace hI := hI.2
            have f19 := hide hI.1
            replace hI := hI.2
            have f20 := hide hI.1
            replace hI := hI.2
            have f21 := hide hI.1
            replace hI := hI.2
            have f22 := hide hI.1
            replace hI := hI.2
            have f23 := hide hI
            clear hI
            have q0 := (hG.below.cell (p := ⟨bl, ol + k * 5, none⟩) (lt_of_cell cl0)).trans cl0
            have q1 := (hG.below.cell (p := ⟨bl, ol + k * 5 + 1, none⟩) (lt_of_cell cl1)).trans cl1
            have q2 := (hG.below.cell (p := ⟨bl, ol + k * 5 + 2, none⟩) (lt_of_cell cl2)).trans cl2
            have q3 := (hG.below.cell (p := ⟨bl, ol + k * 5 + 3, none⟩) (lt_of_cell cl3)).trans cl3
            have q4 := (hG.below.cell (p := ⟨bl, ol + k * 5 + 4, none⟩) (lt_of_cell cl4)).trans cl4
            have g8 := f8.out (hD.on 8 (by kernel_rfl))
            try simp only [puts, Act.put, List.setIfInBounds_toArray, List.set_cons_zero, List.set_cons_succ]
            obtain ⟨-, rfl⟩ := g8
            go_simp
            exact hK.out _ _ _ (by simp only [puts, Act.put, List.setIfInBounds_toArray, List.set_cons_zero, List.set_cons_succ] <;> rfl) ⟨hG, (fun h => f0.out h), (fun h => f1.out h), (fun h => f2.out h), (fun h => f3.out h), (fun h => f4.out h), (fun h => f5.out h), (fun h => f6.out h), (fun h => f7.out h), (fun h => f8.out h), (fun _ => rfl), (fun h => f10.out h), (fun h => f11.out h), (fun h => f12.out h), (fun h => f13.out h), (fun h => f14.out h), (fun h => f15.out h), (fun h => f16.out h), (fun h => f17.out h), (fun h => f18.out h), (fun h => f19.out h), (fun h => f20.out h), (fun h => f21.out h), (fun h => f22.out h), (fun h => f23.out h)⟩
          · intro L vs W hlen hL hD hI K hK
            obtain ⟨x0, x1, x2, x3, x4, x5, x6, x7, x8, x9, x10, x11, x12, x13, x14, x15, x16, x17, x18, x19, x20, x21, x22, x23, rfl⟩ := len24 hlen
            have hG := hI.1
            replace hI := hI.2
            have f0 := hide hI.1
            replace hI := hI.2
            have f1 := hide hI.1
            replace hI := hI.2
            have f2 := hide hI.1
            replace hI := hI.2
            have f3 := hide hI.1
            replace hI := hI.2
            have f4 := hide hI.1
            replace hI := hI.2
            have f5 := hide hI.1
            replace hI := hI.2
            have f6 := hide hI.1
            replace hI := hI.2
            have f7 := hide hI.1
            replace hI := hI.2
            have f8 := hide hI.1
            replace hI := hI.2
            have f9 := hide hI.1
            replace hI := hI.2
            have f10 := hide hI.1
            replace hI := hI.2
            have f11 := hide hI.1
            replace hI := hI.2
            have f12 := hide hI.1
            replace hI := hI.2
            have f13 := hide hI.1
            replace hI := hI.2
            have f14 := hide hI.1
            replace hI := hI.2
            have f15 := hide hI.1
            replace hI := hI.2
            have f16 := hide hI.1
            replace hI := hI.2
            have f17 := hide hI.1
            replace hI := hI.2
            have f18 := hide hI.1
            replace hI := hI.2
            have f19 := hide hI.1
            replace hI := hI.2
            have f20 := hide hI.1
            replace hI := hI.2
            have f21 := hide hI.1
            replace hI := hI.2
            have f22 := hide hI.1
            replace hI := hI.2
            have f23 := hide hI
            clear hI
            have q0 := (hG.below.cell (p := ⟨bl, ol + k * 5, none⟩) (lt_of_cell cl0)).trans cl0
            have q1 := (hG.below.cell (p := ⟨bl, ol + k * 5 + 1, none⟩) (lt_of_cell cl1)).trans cl1
            have q2 := (hG.below.cell (p := ⟨bl, ol + k * 5 + 2, none⟩) (lt_of_cell cl2)).trans cl2
            have q3 := (hG.below.cell (p := ⟨bl, ol + k * 5 + 3, none⟩) (lt_of_cell cl3)).trans cl3
            have q4 := (hG.below.cell (p := ⟨bl, ol + k * 5 + 4, none⟩) (lt_of_cell cl4)).trans cl4
            have g8 := f8.out (hD.on 8 (by kernel_rfl))
            obtain rfl := f9.out (hD.on 9 (by kernel_rfl))
            try simp only [puts, Act.put, List.setIfInBounds_toArray, List.set_cons_zero, List.set_cons_succ]
            obtain ⟨h6, rfl⟩ := g8
            have hG' := hG
            rw [h6] at hG'
            obtain ⟨q, a, c, a2, c2, hq3, hq1, hq2⟩ := hG'.pend (by omega)
            go_simp
            refine (pending_any D W a q c hq1).mono ?_
            rintro e W' ⟨rfl, hW⟩
            obtain rfl := hW
            try go_simp
            exact hK.out _ _ _ (by simp only [puts, Act.put, List.setIfInBounds_toArray, List.set_cons_zero, List.set_cons_succ] <;> rfl) ⟨hG, (fun h => f0.out h), (fun h => f1.out h), (fun h => f2.out h), (fun h => f3.out h), (fun h => f4.out h), (fun h => f5.out h), (fun h => f6.out h), (fun h => f7.out h), (fun h => f8.out h), (fun h => f9.out h), (fun _ => ⟨h6, q, a, c, hq1, rfl⟩), (fun h => f11.out h), (fun h => f12.out h), (fun h => f13.out h), (fun h => f14.out h), (fun h => f15.out h), (fun h => f16.out h), (fun h => f17.out h), (fun h => f18.out h), (fun h => f19.out h), (fun h => f20.out h), (fun h => f21.out h), (fun h => f22.out h), (fun h => f23.out h)⟩
          · intro L vs W hlen hL hD hI K hK
            obtain ⟨x0, x1, x2, x3, x4, x5, x6, x7, x8, x9, x10, x11, x12, x13, x14, x15, x16, x17, x18, x19, x20, x21, x22, x23, rfl⟩ := len24 hlen
            have hG := hI.1
            replace hI := hI.2
            have f0 := hide hI.1
            replace hI := hI.2
            have f1 := hide hI.1
            replace hI := hI.2
            have f2 := hide hI.1
            replace hI := hI.2
            have f3 := hide hI.1
            replace hI := hI.2
            have f4 := hide hI.1
            replace hI := hI.2
            have f5 := hide hI.1
            replace hI := hI.2
            have f6 := hide hI.1
            replace hI := hI.2
            have f7 := hide hI.1
            replace hI := hI.2
            have f8 := hide hI.1
            replace hI := hI.2
            have f9 := hide hI.1
            replace hI := hI.2
            have f10 := hide hI.1
            replace hI := hI.2
            have f11 := hide hI.1
            replace hI := hI.2
            have f12 := hide hI.1
            replace hI := hI.2
            have f13 := hide hI.1
            replace hI := hI.2
            have f14 := hide hI.1
            replace hI := hI.2
            have f15 := hide hI.1
            replace hI := hI.2
            have f16 := hide hI.1
            replace hI := hI.2
            have f17 := hide hI.1
            replace hI := hI.2
            have f18 := hide hI.1
            replace hI := hI.2
            have f19 := hide hI.1
            replace hI := hI.2
            have f20 := hide hI.1
            replace hI := hI.2
            have f21 := hide hI.1
            replace hI := hI.2
            have f22 := hide hI.1
            replace hI := hI.2
            have f23 := hide hI
            clear hI
            have q0 := (hG.below.cell (p := ⟨bl, ol + k * 5, none⟩) (lt_of_cell cl0)).trans cl0
            have q1 := (hG.below.cell (p := ⟨bl, ol + k * 5 + 1, none⟩) (lt_of_cell cl1)).trans cl1
            have q2 := (hG.below.cell (p := ⟨bl, ol + k * 5 + 2, none⟩) (lt_of_cell cl2)).trans cl2
            have q3 := (hG.below.cell (p := ⟨bl, ol + k * 5 + 3, none⟩) (lt_of_cell cl3)).trans cl3
            have q4 := (hG.below.cell (p := ⟨bl, ol + k * 5 + 4, none⟩) (lt_of_cell cl4)).trans cl4
            have g8 := f8.out (hD.on 8 (by kernel_rfl))
            try simp only [puts, Act.put, List.setIfInBounds_toArray, List.set_cons_zero, List.set_cons_succ]
            obtain ⟨-, rfl⟩ := g8
            go_simp
            exact hK.out _ _ _ (by simp only [puts, Act.put, List.setIfInBounds_toArray, List.set_cons_zero, List.set_cons_succ] <;> rfl) ⟨hG, (fun h => f0.out h), (fun h => f1.out h), (fun h => f2.out h), (fun h => f3.out h), (fun h => f4.out h), (fun h => f5.out h), (fun h => f6.out h), (fun h => f7.out h), (fun h => f8.out h), (fun h => f9.out h), (fun h => f10.out h), (fun _ => rfl), (fun h => f12.out h), (fun h => f13.out h), (fun h => f14.out h), (fun h => f15.out h), (fun h => f16.out h), (fun h => f17.out h), (fun h => f18.out h), (fun h => f19.out h), (fun h => f20.out h), (fun h => f21.out h), (fun h => f22.out h), (fun h => f23.out h)⟩
          · intro L vs W hlen hL hD hI K hK
            obtain ⟨x0, x1, x2, x3, x4, x5, x6, x7, x8, x9, x10, x11, x12, x13, x14, x15, x16, x17, x18, x19, x20, x21, x22, x23, rfl⟩ := len24 hlen
            have hG := hI.1
            replace hI := hI.2
            have f0 := hide hI.1
            replace hI := hI.2
            have f1 := hide hI.1
            replace hI := hI.2
            have f2 := hide hI.1
            replace hI := hI.2
            have f3 := hide hI.1
            replace hI := hI.2
            have f4 := hide hI.1
            replace hI := hI.2
            have f5 := hide hI.1
            replace hI := hI.2
            have f6 := hide hI.1
            replace hI := hI.2
            have f7 := hide hI.1
            replace hI := hI.2
            have f8 := hide hI.1
            replace hI := hI.2
            have f9 := hide hI.1
            replace hI := hI.2
            have f10 := hide hI.1
            replace hI := hI.2
            have f11 := hide hI.1
            replace hI := hI.2
            have f12 := hide hI.1
            replace hI := hI.2
            have f13 := hide hI.1
            replace hI := hI.2
            have f14 := hide hI.1
            replace hI := hI.2
            have f15 := hide hI.1
            replace hI := hI.2
            have f16 := hide hI.1
            replace hI := hI.2
            have f17 := hide hI.1
            replace hI := hI.2
            have f18 := hide hI.1
            replace hI := hI.2
            have f19 := hide hI.1
            replace hI := hI.2
            have f20 := hide hI.1
            replace hI := hI.2
            have f21 := hide hI.1
            replace hI := hI.2
            have f22 := hide hI.1
            replace hI := hI.2
            have f23 := hide hI
            clear hI
            have q0 := (hG.below.cell (p := ⟨bl, ol + k * 5, none⟩) (lt_of_cell cl0)).trans cl0
            have q1 := (hG.below.cell (p := ⟨bl, ol + k * 5 + 1, none⟩) (lt_of_cell cl1)).trans cl1
            have q2 := (hG.below.cell (p := ⟨bl, ol + k * 5 + 2, none⟩) (lt_of_cell cl2)).trans cl2
            have q3 := (hG.below.cell (p := ⟨bl, ol + k * 5 + 3, none⟩) (lt_of_cell cl3)).trans cl3
            have q4 := (hG.below.cell (p := ⟨bl, ol + k * 5 + 4, none⟩) (lt_of_cell cl4)).trans cl4
            have g8 := f8.out (hD.on 8 (by kernel_rfl))
            obtain rfl := f11.out (hD.on 11 (by kernel_rfl))
            try simp only [puts, Act.put, List.setIfInBounds_toArray, List.set_cons_zero, List.set_cons_succ]
            obtain ⟨-, rfl⟩ := g8
            go_simp
            exact hK.out _ _ _ (by simp only [puts, Act.put, List.setIfInBounds_toArray, List.set_cons_zero, List.set_cons_succ] <;> rfl) ⟨hG, (fun h => f0.out h), (fun h => f1.out h), (fun h => f2.out h), (fun h => f3.out h), (fun h => f4.out h), (fun h => f5.out h), (fun h => f6.out h), (fun h => f7.out h), (fun h => f8.out h), (fun h => f9.out h), (fun h => f10.out h), (fun h => f11.out h), (fun _ => rfl), (fun h => f13.out h), (fun h => f14.out h), (fun h => f15.out h), (fun h => f16.out h), (fun h => f17.out h), (fun h => f18.out h), (fun h => f19.out h), (fun h => f20.out h), (fun h => f21.out h), (fun h => f22.out h), (fun h => f23.out h)⟩
          · intro L vs W hlen hL hD hI K hK
            obtain ⟨x0, x1, x2, x3, x4, x5, x6, x7, x8, x9, x10, x11, x12, x13, x14, x15, x16, x17, x18, x19, x20, x21, x22, x23, rfl⟩ := len24 hlen
            have hG := hI.1
            replace hI := hI.2
            have f0 := hide hI.1
            replace hI := hI.2
            have f1 := hide hI.1
            replace hI := hI.2
            have f2 := hide hI.1
            replace hI := hI.2
            have f3 := hide hI.1
            replace hI := hI.2
            have f4 := hide hI.1
            replace hI := hI.2
            have f5 := hide hI.1
            replace hI := hI.2
            have f6 := hide hI.1
            replace hI := hI.2
            have f7 := hide hI.1
            replace hI := hI.2
            have f8 := hide hI.1
            replace hI := hI.2
            have f9 := hide hI.1
            replace hI := hI.2
            have f10 := hide hI.1
            replace hI := hI.2
            have f11 := hide hI.1
            replace hI := hI.2
            have f12 := hide hI.1
            replace hI := hI.2
            have f13 := hide hI.1
            replace hI := hI.2
            have f14 := hide hI.1
            replace hI := hI.2
            have f15 := hide hI.1
            replace hI := hI.2
            have f16 := hide hI.1
            replace hI := hI.2
            have f17 := hide hI.1
            replace hI := hI.2
            have f18 := hide hI.1
            replace hI := hI.2
            have f19 := hide hI.1
            replace hI := hI.2
            have f20 := hide hI.1
            replace hI := hI.2
            have f21 := hide hI.1
            replace hI := hI.2
            have f22 := hide hI.1
            replace hI := hI.2
            have f23 := hide hI
            clear hI
            have q0 := (hG.below.cell (p := ⟨bl, ol + k * 5, none⟩) (lt_of_cell cl0)).trans cl0
            have q1 := (hG.below.cell (p := ⟨bl, ol + k * 5 + 1, none⟩) (lt_of_cell cl1)).trans cl1
            have q2 := (hG.below.cell (p := ⟨bl, ol + k * 5 + 2, none⟩) (lt_of_cell cl2)).trans cl2
            have q3 := (hG.below.cell (p := ⟨bl, ol + k * 5 + 3, none⟩) (lt_of_cell cl3)).trans cl3
            have q4 := (hG.below.cell (p := ⟨bl, ol + k * 5 + 4, none⟩) (lt_of_cell cl4)).trans cl4
            have g8 := f8.out (hD.on 8 (by kernel_rfl))
            obtain rfl := f12.out (hD.on 12 (by kernel_rfl))
            try simp only [puts, Act.put, List.setIfInBounds_toArray, List.set_cons_zero, List.set_cons_succ]
            obtain ⟨-, rfl⟩ := g8
            go_simp
            exact hK.out _ _ _ (by simp only [puts, Act.put, List.setIfInBounds_toArray, List.set_cons_zero, List.set_cons_succ] <;> rfl) ⟨hG, (fun h => f0.out h), (fun h => f1.out h), (fun h => f2.out h), (fun h => f3.out h), (fun h => f4.out h), (fun h => f5.out h), (fun h => f6.out h), (fun h => f7.out h), (fun h => f8.out h), (fun h => f9.out h), (fun h => f10.out h), (fun h => f11.out h), (fun h => f12.out h), (fun _ => rfl), (fun h => f14.out h), (fun h => f15.out h), (fun h => f16.out h), (fun h => f17.out h), (fun h => f18.out h), (fun h => f19.out h), (fun h => f20.out h), (fun h => f21.out h), (fun h => f22.out h), (fun h => f23.out h)⟩
          · intro L vs W hlen hL hD hI K hK
            obtain ⟨x0, x1, x2, x3, x4, x5, x6, x7, x8, x9, x10, x11, x12, x13, x14, x15, x16, x17, x18, x19, x20, x21, x22, x23, rfl⟩ := len24 hlen
            have hG := hI.1
            replace hI := hI.2
            have f0 := hide hI.1
            replace hI := hI.2
            have f1 := hide hI.1
            replace hI := hI.2
            have f2 := hide hI.1
            replace hI := hI.2
            have f3 := hide hI.1
            replace hI := hI.2
            have f4 := hide hI.1
            replace hI := hI.2
            have f5 := hide hI.1
            replace hI := hI.2
            have f6 := hide hI.1
            replace hI := hI.2
            have f7 := hide hI.1
            replace hI := hI.2
            have f8 := hide hI.1
            replace hI := hI.2
            have f9 := hide hI.1
            replace hI := hI.2
            have f10 := hide hI.1
            replace hI := hI.2
            have f11 := hide hI.1
            replace hI := hI.2
            have f12 := hide hI.1
            replace hI := hI.2
            have f13 := hide hI.1
            replace hI := hI.2
            have f14 := hide hI.1
            replace hI := hI.2
            have f15 := hide hI.1
            replace hI := hI.2
            have f16 := hide hI.1
            replace hI := hI.2
            have f17 := hide hI.1
            replace hI := hI.2
            have f18 := hide hI.1
            replace hI := hI.2
            have f19 := hide hI.1
            replace hI := hI.2
            have f20 := hide hI.1
            replace hI := hI.2
            have f21 := hide hI.1
            replace hI := hI.2
            have f22 := hide hI.1
            replace hI := hI.2
            have f23 := hide hI
            clear hI
            have q0 := (hG.below.cell (p := ⟨bl, ol + k * 5, none⟩) (lt_of_cell cl0)).trans cl0
            have q1 := (hG.below.cell (p := ⟨bl, ol + k * 5 + 1, none⟩) (lt_of_cell cl1)).trans cl1
            have q2 := (hG.below.cell (p := ⟨bl, ol + k * 5 + 2, none⟩) (lt_of_cell cl2)).trans cl2
            have q3 := (hG.below.cell (p := ⟨bl, ol + k * 5 + 3, none⟩) (lt_of_cell cl3)).trans cl3
            have q4 := (hG.below.cell (p := ⟨bl, ol + k * 5 + 4, none⟩) (lt_of_cell cl4)).trans cl4
            have g8 := f8.out (hD.on 8 (by kernel_rfl))
            obtain rfl := f13.out (hD.on 13 (by kernel_rfl))
            try simp only [puts, Act.put, List.setIfInBounds_toArray, List.set_cons_zero, List.set_cons_succ]
            obtain ⟨h6, rfl⟩ := g8
            have hG' := hG
            rw [h6] at hG'
            obtain ⟨q, a, c, a2, c2, hq3, hq1, hq2⟩ := hG'.pend (by omega)
            go_simp
            exact hK.out _ _ _ (by simp only [puts, Act.put, List.setIfInBounds_toArray, List.set_cons_zero, List.set_cons_succ] <;> rfl) ⟨hG, (fun h => f0.out h), (fun h => f1.out h), (fun h => f2.out h), (fun h => f3.out h), (fun h => f4.out h), (fun h => f5.out h), (fun h => f6.out h), (fun h => f7.out h), (fun h => f8.out h), (fun h => f9.out h), (fun h => f10.out h), (fun h => f11.out h), (fun h => f12.out h), (fun h => f13.out h), (fun _ => ⟨h6, q, a2, c2, hq2, rfl⟩), (fun h => f15.out h), (fun h => f16.out h), (fun h => f17.out h), (fun h => f18.out h), (fun h => f19.out h), (fun h => f20.out h), (fun h => f21.out h), (fun h => f22.out h), (fun h => f23.out h)⟩
          · intro L vs W hlen hL hD hI K hK
            obtain ⟨x0, x1, x2, x3, x4, x5, x6, x7, x8, x9, x10, x11, x12, x13, x14, x15, x16, x17, x18, x19, x20, x21, x22, x23, rfl⟩ := len24 hlen
            have hG := hI.1
            replace hI := hI.2
            have f0 := hide hI.1
            replace hI := hI.2
            have f1 := hide hI.1
            replace hI := hI.2
            have f2 := hide hI.1
            replace hI := hI.2
            have f3 := hide hI.1
            replace hI := hI.2
            have f4 := hide hI.1
            replace hI := hI.2
            have f5 := hide hI.1
            replace hI := hI.2
            have f6 := hide hI.1
            replace hI := hI.2
            have f7 := hide hI.1
            replace hI := hI.2
            have f8 := hide hI.1
            replace hI := hI.2
            have f9 := hide hI.1
            replace hI := hI.2
            have f10 := hide hI.1
            replace hI := hI.2
            have f11 := hide hI.1
            replace hI := hI.2
            have f12 := hide hI.1
            replace hI := hI.2
            have f13 := hide hI.1
            replace hI := hI.2
            have f14 := hide hI.1
            replace hI := hI.2
            have f15 := hide hI.1
            replace hI := hI.2
            have f16 := hide hI.1
            replace hI := hI.2
            have f17 := hide hI.1
            replace hI := hI.2
            have f18 := hide hI.1
            replace hI := hI.2
            have f19 := hide hI.1
            replace hI := hI.2
            have f20 := hide hI.1
            replace hI := hI.2
            have f21 := hide hI.1
            replace hI := hI.2
            have f22 := hide hI.1
            replace hI := hI.2
            have f23 := hide hI
            clear hI
            have q0 := (hG.below.cell (p := ⟨bl, ol + k * 5, none⟩) (lt_of_cell cl0)).trans cl0
            have q1 := (hG.below.cell (p := ⟨bl, ol + k * 5 + 1, none⟩) (lt_of_cell cl1)).trans cl1
            have q2 := (hG.below.cell (p := ⟨bl, ol + k * 5 + 2, none⟩) (lt_of_cell cl2)).trans cl2
            have q3 := (hG.below.cell (p := ⟨bl, ol + k * 5 + 3, none⟩) (lt_of_cell cl3)).trans cl3
            have q4 := (hG.below.cell (p := ⟨bl, ol + k * 5 + 4, none⟩) (lt_of_cell cl4)).trans cl4
            have g8 := f8.out (hD.on 8 (by kernel_rfl))
            have g14 := f14.out (hD.on 14 (by kernel_rfl))
            try simp only [puts, Act.put, List.setIfInBounds_toArray, List.set_cons_zero, List.set_cons_succ]
            obtain ⟨-, rfl⟩ := g8
            obtain ⟨h6, q, a, c, hc, rfl⟩ := g14
            go_simp
            exact hK.out _ _ _ (by simp only [puts, Act.put, List.setIfInBounds_toArray, List.set_cons_zero, List.set_cons_succ] <;> rfl) ⟨hG, (fun h => f0.out h), (fun h => f1.out h), (fun h => f2.out h), (fun h => f3.out h), (fun h => f4.out h), (fun h => f5.out h), (fun h => f6.out h), (fun h => f7.out h), (fun h => f8.out h), (fun h => f9.out h), (fun h => f10.out h), (fun h => f11.out h), (fun h => f12.out h), (fun h => f13.out h), (fun h => f14.out h), (fun _ => ⟨h6, q, a, c, hc, rfl⟩), (fun h => f16.out h), (fun h => f17.out h), (fun h => f18.out h), (fun h => f19.out h), (fun h => f20.out h), (fun h => f21.out h), (fun h => f22.out h), (fun h => f23.out h)⟩
          · intro L vs W hlen hL hD hI K hK
            obtain ⟨x0, x1, x2, x3, x4, x5, x6, x7, x8, x9, x10, x11, x12, x13, x14, x15, x16, x17, x18, x19, x20, x21, x22, x23, rfl⟩ := len24 hlen
            have hG := hI.1
            replace hI := hI.2
            have f0 := hide hI.1
            replace hI := hI.2
            have f1 := hide hI.1
            replace hI := hI.2
            have f2 := hide hI.1
            replace hI := hI.2
            have f3 := hide hI.1
            replace hI := hI.2
            have f4 := hide hI.1
            replace hI := hI.2
            have f5 := hide hI.1
            replace hI := hI.2
            have f6 := hide hI.1
            replace hI := hI.2
            have f7 := hide hI.1
            replace hI := hI.2
            have f8 := hide hI.1
            replace hI := hI.2
            have f9 := hide hI.1
            replace hI := hI.2
            have f10 := hide hI.1
            replace hI := hI.2
            have f11 := hide hI.1
            replace hI := hI.2
            have f12 := hide hI.1
            replace hI := hI.2
            have f13 := hide hI.1
            replace hI := hI.2
            have f14 := hide hI.1
            replace hI := hI.2
            have f15 := hide hI.1
            replace hI := hI.2
            have f16 := hide hI.1
            replace hI := hI.2
            have f17 := hide hI.1
            replace hI := hI.2
            have f18 := hide hI.1
            replace hI := hI.2
            have f19 := hide hI.1
            replace hI := hI.2
            have f20 := hide hI.1
            replace hI := hI.2
            have f21 := hide hI.1
            replace hI := hI.2
            have f22 := hide hI.1
            replace hI := hI.2
            have f23 := hide hI
            clear hI
            have q0 := (hG.below.cell (p := ⟨bl, ol + k * 5, none⟩) (lt_of_cell cl0)).trans cl0
            have q1 := (hG.below.cell (p := ⟨bl, ol + k * 5 + 1, none⟩) (lt_of_cell cl1)).trans cl1
            have q2 := (hG.below.cell (p := ⟨bl, ol + k * 5 + 2, none⟩) (lt_of_cell cl2)).trans cl2
            have q3 := (hG.below.cell (p := ⟨bl, ol + k * 5 + 3, none⟩) (lt_of_cell cl3)).trans cl3
            have q4 := (hG.below.cell (p := ⟨bl, ol + k * 5 + 4, none⟩) (lt_of_cell cl4)).trans cl4
            have g8 := f8.out (hD.on 8 (by kernel_rfl))
            have g10 := f10.out (hD.on 10 (by kernel_rfl))
            have g15 := f15.out (hD.on 15 (by kernel_rfl))
            try simp only [puts, Act.put, List.setIfInBounds_toArray, List.set_cons_zero, List.set_cons_succ]
            obtain ⟨h6, rfl⟩ := g8
            obtain ⟨-, q1, a1, c1, hc1, rfl⟩ := g10
            obtain ⟨-, q2, a2, c2, hc2, rfl⟩ := g15
            have hG' := hG
            rw [h6] at hG'
            obtain ⟨q, a, c, a3, c3, hq3, hd1, hd2⟩ := hG'.pend (by omega)
            obtain ⟨-, rfl, -⟩ := sl_inj hc1 hd1
            obtain ⟨-, rfl, -⟩ := sl_inj hc2 hd2
            go_simp
            exact hK.out _ _ _ (by simp only [puts, Act.put, List.setIfInBounds_toArray, List.set_cons_zero, List.set_cons_succ] <;> rfl) ⟨hG, (fun h => f0.out h), (fun h => f1.out h), (fun h => f2.out h), (fun h => f3.out h), (fun h => f4.out h), (fun h => f5.out h), (fun h => f6.out h), (fun h => f7.out h), (fun h => f8.out h), (fun h => f9.out h), (fun h => f10.out h), (fun h => f11.out h), (fun h => f12.out h), (fun h => f13.out h), (fun h => f14.out h), (fun h => f15.out h), (fun _ => rfl), (fun h => f17.out h), (fun h => f18.out h), (fun h => f19.out h), (fun h => f20.out h), (fun h => f21.out h), (fun h => f22.out h), (fun h => f23.out h)⟩
          · intro L vs W hlen hL hD hI K hK
            obtain ⟨x0, x1, x2, x3, x4, x5, x6, x7, x8, x9, x10, x11, x12, x13, x14, x15, x16, x17, x18, x19, x20, x21, x22, x23, rfl⟩ := len24 hlen
            have hG := hI.1
            replace hI := hI.2
            have f0 := hide hI.1
            replace hI := hI.2
            have f1 := hide hI.1
            replace hI := hI.2
            have f2 := hide hI.1
            replace hI := hI.2
            have f3 := hide hI.1
            replace hI := hI.2
            have f4 := hide hI.1
            replace hI := hI.2
            have f5 := hide hI.1
            replace hI := hI.2
            have f6 := hide hI.1
            replace hI := hI.2
            have f7 := hide hI.1
            replace hI := hI.2
            have f8 := hide hI.1
            replace hI := hI.2
            have f9 := hide hI.1
            replace hI := hI.2
            have f10 := hide hI.1
            replace hI := hI.2
            have f11 := hide hI.1
            replace hI := hI.2
            have f12 := hide hI.1
            replace hI := hI.2
            have f13 := hide hI.1
            replace hI := hI.2
            have f14 := hide hI.1
            replace hI := hI.2
            have f15 := hide hI.1
            replace hI := hI.2
            have f16 := hide hI.1
            replace hI := hI.2
            have f17 := hide hI.1
            replace hI := hI.2
            have f18 := hide hI.1
            replace hI := hI.2
            have f19 := hide hI.1
            replace hI := hI.2
            have f20 := hide hI.1
            replace hI := hI.2
            have f21 := hide hI.1
            replace hI := hI.2
            have f22 := hide hI.1
            replace hI := hI.2
            have f23 := hide hI
            clear hI
            have q0 := (hG.below.cell (p := ⟨bl, ol + k * 5, none⟩) (lt_of_cell cl0)).trans cl0
            have q1 := (hG.below.cell (p := ⟨bl, ol + k * 5 + 1, none⟩) (lt_of_cell cl1)).trans cl1
            have q2 := (hG.below.cell (p := ⟨bl, ol + k * 5 + 2, none⟩) (lt_of_cell cl2)).trans cl2
            have q3 := (hG.below.cell (p := ⟨bl, ol + k * 5 + 3, none⟩) (lt_of_cell cl3)).trans cl3
            have q4 := (hG.below.cell (p := ⟨bl, ol + k * 5 + 4, none⟩) (lt_of_cell cl4)).trans cl4
            have g8 := f8.out (hD.on 8 (by kernel_rfl))
            obtain rfl := f16.out (hD.on 16 (by kernel_rfl))
            try simp only [puts, Act.put, List.setIfInBounds_toArray, List.set_cons_zero, List.set_cons_succ]
            obtain ⟨-, rfl⟩ := g8
            go_simp
            exact hK.out _ _ _ (by simp only [puts, Act.put, List.setIfInBounds_toArray, List.set_cons_zero, List.set_cons_succ] <;> rfl) ⟨hG, (fun h => f0.out h), (fun h => f1.out h), (fun h => f2.out h), (fun h => f3.out h), (fun h => f4.out h), (fun h => f5.out h), (fun h => f6.out h), (fun h => f7.out h), (fun h => f8.out h), (fun h => f9.out h), (fun h => f10.out h), (fun h => f11.out h), (fun h => f12.out h), (fun h => f13.out h), (fun h => f14.out h), (fun h => f15.out h), (fun h => f16.out h), (fun _ => rfl), (fun h => f18.out h), (fun h => f19.out h), (fun h => f20.out h), (fun h => f21.out h), (fun h => f22.out h), (fun h => f23.out h)⟩
          · intro L vs W hlen hL hD hI K hK
            obtain ⟨x0, x1, x2, x3, x4, x5, x6, x7, x8, x9, x10, x11, x12, x13, x14, x15, x16, x17, x18, x19, x20, x21, x22, x23, rfl⟩ := len24 hlen
            have hG := hI.1
            replace hI := hI.2
            have f0 := hide hI.1
            replace hI := hI.2
            have f1 := hide hI.1
            replace hI := hI.2
            have f2 := hide hI.1
            replace hI := hI.2
            have f3 := hide hI.1
            replace hI := hI.2
            have f4 := hide hI.1
            replace hI := hI.2
            have f5 := hide hI.1
            replace hI := hI.2
            have f6 := hide hI.1
            replace hI := hI.2
            have f7 := hide hI.1
            replace hI := hI.2
            have f8 := hide hI.1
            replace hI := hI.2
            have f9 := hide hI.1
            replace hI := hI.2
            have f10 := hide hI.1
            replace hI := hI.2
            have f11 := hide hI.1
            replace hI := hI.2
            have f12 := hide hI.1
            replace hI := hI.2
            have f13 := hide hI.1
            replace hI := hI.2
            have f14 := hide hI.1
            replace hI := hI.2
            have f15 := hide hI.1
            replace hI := hI.2
            have f16 := hide hI.1
            replace hI := hI.2
            have f17 := hide hI.1
            replace hI := hI.2
            have f18 := hide hI.1
            replace hI := hI.2
            have f19 := hide hI.1
            replace hI := hI.2
            have f20 := hide hI.1
            replace hI := hI.2
            have f21 := hide hI.1
            replace hI := hI.2
            have f22 := hide hI.1
            replace hI := hI.2
            have f23 := hide hI
            clear hI
            have q0 := (hG.below.cell (p := ⟨bl, ol + k * 5, none⟩) (lt_of_cell cl0)).trans cl0
            have q1 := (hG.below.cell (p := ⟨bl, ol + k * 5 + 1, none⟩) (lt_of_cell cl1)).trans cl1
            have q2 := (hG.below.cell (p := ⟨bl, ol + k * 5 + 2, none⟩) (lt_of_cell cl2)).trans cl2
            have q3 := (hG.below.cell (p := ⟨bl, ol + k * 5 + 3, none⟩) (lt_of_cell cl3)).trans cl3
            have q4 := (hG.below.cell (p := ⟨bl, ol + k * 5 + 4, none⟩) (lt_of_cell cl4)).trans cl4
            obtain rfl := f17.out (hD.on 17 (by kernel_rfl))
            try simp only [puts, Act.put, List.setIfInBounds_toArray, List.set_cons_zero, List.set_cons_succ]
            try go_simp
            exact hK.out _ _ _ (by simp only [puts, Act.put, List.setIfInBounds_toArray, List.set_cons_zero, List.set_cons_succ] <;> rfl) ⟨hG, (fun h => f0.out h), (fun h => f1.out h), (fun h => f2.out h), (fun h => f3.out h), (fun h => f4.out h), (fun h => f5.out h), (fun h => f6.out h), (fun h => f7.out h), (fun h => f8.out h), (fun h => f9.out h), (fun h => f10.out h), (fun h => f11.out h), (fun h => f12.out h), (fun h => f13.out h), (fun h => f14.out h), (fun h => f15.out h), (fun h => f16.out h), (fun h => f17.out h), (fun _ => rfl), (fun h => f19.out h), (fun h => f20.out h), (fun h => f21.out h), (fun h => f22.out h), (fun h => f23.out h)⟩
          · intro L vs W hlen hL hD hI K hK
            obtain ⟨x0, x1, x2, x3, x4, x5, x6, x7, x8, x9, x10, x11, x12, x13, x14, x15, x16, x17, x18, x19, x20, x21, x22, x23, rfl⟩ := len24 hlen
            have hG := hI.1
            replace hI := hI.2
            have f0 := hide hI.1
            replace hI := hI.2
            have f1 := hide hI.1
            replace hI := hI.2
            have f2 := hide hI.1
            replace hI := hI.2
            have f3 := hide hI.1
            replace hI := hI.2
            have f4 := hide hI.1
            replace hI := hI.2
            have f5 := hide hI.1
            replace hI := hI.2
            have f6 := hide hI.1
            replace hI := hI.2
            have f7 := hide hI.1
            replace hI := hI.2
            have f8 := hide hI.1
            replace hI := hI.2
            have f9 := hide hI.1
            replace hI := hI.2
            have f10 := hide hI.1
            replace hI := hI.2
            have f11 := hide hI.1
            replace hI := hI.2
            have f12 := hide hI.1
            replace hI := hI.2
            have f13 := hide hI.1
            replace hI := hI.2
            have f14 := hide hI.1
            replace hI := hI.2
            have f15 := hide hI.1
            replace hI := hI.2
            have f16 := hide hI.1
            replace hI := hI.2
            have f17 := hide hI.1
            replace hI := hI.2
            have f18 := hide hI.1
            replace hI := hI.2
            have f19 := hide hI.1
            replace hI := hI.2
            have f20 := hide hI.1
            replace hI := hI.2
            have f21 := hide hI.1
            replace hI := hI.2
            have f22 := hide hI.1
            replace hI := hI.2
            have f23 := hide hI
            clear hI
            have q0 := (hG.below.cell (p := ⟨bl, ol + k * 5, none⟩) (lt_of_cell cl0)).trans cl0
            have q1 := (hG.below.cell (p := ⟨bl, ol + k * 5 + 1, none⟩) (lt_of_cell cl1)).trans cl1
            have q2 := (hG.below.cell (p := ⟨bl, ol + k * 5 + 2, none⟩) (lt_of_cell cl2)).trans cl2
            have q3 := (hG.below.cell (p := ⟨bl, ol + k * 5 + 3, none⟩) (lt_of_cell cl3)).trans cl3
            have q4 := (hG.below.cell (p := ⟨bl, ol + k * 5 + 4, none⟩) (lt_of_cell cl4)).trans cl4
            obtain rfl := f18.out (hD.on 18 (by kernel_rfl))
            try simp only [puts, Act.put, List.setIfInBounds_toArray, List.set_cons_zero, List.set_cons_succ]
            try go_simp
            exact hK.out _ _ _ (by simp only [puts, Act.put, List.setIfInBounds_toArray, List.set_cons_zero, List.set_cons_succ] <;> rfl) ⟨hG, (fun h => f0.out h), (fun h => f1.out h), (fun h => f2.out h), (fun h => f3.out h), (fun h => f4.out h), (fun h => f5.out h), (fun h => f6.out h), (fun h => f7.out h), (fun h => f8.out h), (fun h => f9.out h), (fun h => f10.out h), (fun h => f11.out h), (fun h => f12.out h), (fun h => f13.out h), (fun h => f14.out h), (fun h => f15.out h), (fun h => f16.out h), (fun h => f17.out h), (fun h => f18.out h), (fun _ => rfl), (fun h => f20.out h), (fun h => f21.out h), (fun h => f22.out h), (fun h => f23.out h)⟩
          · intro L vs W hlen hL hD hI K hK
            obtain ⟨x0, x1, x2, x3, x4, x5, x6, x7, x8, x9, x10, x11, x12, x13, x14, x15, x16, x17, x18, x19, x20, x21, x22, x23, rfl⟩ := len24 hlen
            have hG := hI.1
            replace hI := hI.2
            have f0 := hide hI.1
            replace hI := hI.2
            have f1 := hide hI.1
            replace hI := hI.2
            have f2 := hide hI.1
            replace hI := hI.2
            have f3 := hide hI.1
            replace hI := hI.2
            have f4 := hide hI.1
            replace hI := hI.2
            have f5 := hide hI.1
            replace hI := hI.2
            have f6 := hide hI.1
            replace hI := hI.2
            have f7 := hide hI.1
            replace hI := hI.2
            have f8 := hide hI.1
            replace hI := hI.2
            have f9 := hide hI.1
            replace hI := hI.2
            have f10 := hide hI.1
            replace hI := hI.2
            have f11 := hide hI.1
            replace hI := hI.2
            have f12 := hide hI.1
            replace hI := hI.2
            have f13 := hide hI.1
            replace hI := hI.2
            have f14 := hide hI.1
            replace hI := hI.2
            have f15 := hide hI.1
            replace hI := hI.2
            have f16 := hide hI.1
            replace hI := hI.2
            have f17 := hide hI.1
            replace hI := hI.2
            have f18 := hide hI.1
            replace hI := hI.2
            have f19 := hide hI.1
            replace hI := hI.2
            have f20 := hide hI.1
            replace hI := hI.2
            have f21 := hide hI.1
            replace hI := hI.2
            have f22 := hide hI.1
            replace hI := hI.2
            have f23 := hide hI
            clear hI
            have q0 := (hG.below.cell (p := ⟨bl, ol + k * 5, none⟩) (lt_of_cell cl0)).trans cl0
            have q1 := (hG.below.cell (p := ⟨bl, ol + k * 5 + 1, none⟩) (lt_of_cell cl1)).trans cl1
            have q2 := (hG.below.cell (p := ⟨bl, ol + k * 5 + 2, none⟩) (lt_of_cell cl2)).trans cl2
            have q3 := (hG.below.cell (p := ⟨bl, ol + k * 5 + 3, none⟩) (lt_of_cell cl3)).trans cl3
            have q4 := (hG.below.cell (p := ⟨bl, ol + k * 5 + 4, none⟩) (lt_of_cell cl4)).trans cl4
            obtain rfl := f18.out (hD.on 18 (by kernel_rfl))
            obtain rfl := f19.out (hD.on 19 (by kernel_rfl))
            try simp only [puts, Act.put, List.setIfInBounds_toArray, List.set_cons_zero, List.set_cons_succ]
            try go_simp
            refine (size_any D W _ m m hG.size).mono ?_
            rintro e W' ⟨rfl, hW⟩
            obtain rfl := hW
            try go_simp
            exact hK.out _ _ _ (by simp only [puts, Act.put, List.setIfInBounds_toArray, List.set_cons_zero, List.set_cons_succ] <;> rfl) ⟨hG, (fun h => f0.out h), (fun h => f1.out h), (fun h => f2.out h), (fun h => f3.out h), (fun h => f4.out h), (fun h => f5.out h), (fun h => f6.out h), (fun h => f7.out h), (fun h => f8.out h), (fun h => f9.out h), (fun h => f10.out h), (fun h => f11.out h), (fun h => f12.out h), (fun h => f13.out h), (fun h => f14.out h), (fun h => f15.out h), (fun h => f16.out h), (fun h => f17.out h), (fun h => f18.out h), (fun h => f19.out h), (fun _ => rfl), (fun h => f21.out h), (fun h => f22.out h), (fun h => f23.out h)⟩
          · intro L vs W hlen hL hD hI K hK
            obtain ⟨x0, x1, x2, x3, x4, x5, x6, x7, x8, x9, x10, x11, x12, x13, x14, x15, x16, x17, x18, x19, x20, x21, x22, x23, rfl⟩ := len24 hlen
            have hG := hI.1
            replace hI := hI.2
            have f0 := hide hI.1
            replace hI := hI.2
            have f1 := hide hI.1
            replace hI := hI.2
            have f2 := hide hI.1
            replace hI := hI.2
            have f3 := hide hI.1
            replace hI := hI.2
            have f4 := hide hI.1
            replace hI := hI.2
            have f5 := hide hI.1
            replace hI := hI.2
            have f6 := hide hI.1
            replace hI := hI.2
            have f7 := hide hI.1
            replace hI := hI.2
            have f8 := hide hI.1
            replace hI := hI.2
            have f9 := hide hI.1
            replace hI := hI.2
            have f10 := hide hI.1
            replace hI := hI.2
            have f11 := hide hI.1
            replace hI := hI.2
            have f12 := hide hI.1
            replace hI := hI.2
            have f13 := hide hI.1
            replace hI := hI.2
            have f14 := hide hI.1
            replace hI := hI.2
            have f15 := hide hI.1
            replace hI := hI.2
            have f16 := hide hI.1
            replace hI := hI.2
            have f17 := hide hI.1
            replace hI := hI.2
            have f18 := hide hI.1
            replace hI := hI.2
            have f19 := hide hI.1
            replace hI := hI.2
            have f20 := hide hI.1
            replace hI := hI.2
            have f21 := hide hI.1
            replace hI := hI.2
            have f22 := hide hI.1
            replace hI := hI.2
            have f23 := hide hI
            clear hI
            have q0 := (hG.below.cell (p := ⟨bl, ol + k * 5, none⟩) (lt_of_cell cl0)).trans cl0
            have q1 := (hG.below.cell (p := ⟨bl, ol + k * 5 + 1, none⟩) (lt_of_cell cl1)).trans cl1
            have q2 := (hG.below.cell (p := ⟨bl, ol + k * 5 + 2, none⟩) (lt_of_cell cl2)).trans cl2
            have q3 := (hG.below.cell (p := ⟨bl, ol + k * 5 + 3, none⟩) (lt_of_cell cl3)).trans cl3
            have q4 := (hG.below.cell (p := ⟨bl, ol + k * 5 + 4, none⟩) (lt_of_cell cl4)).trans cl4
            obtain rfl := f18.out (hD.on 18 (by kernel_rfl))
            try simp only [puts, Act.put, List.setIfInBounds_toArray, List.set_cons_zero, List.set_cons_succ]
            try go_simp
            exact hK.out _ _ _ (by simp only [puts, Act.put, List.setIfInBounds_toArray, List.set_cons_zero, List.set_cons_succ] <;> rfl) ⟨hG, (fun h => f0.out h), (fun h => f1.out h), (fun h => f2.out h), (fun h => f3.out h), (fun h => f4.out h), (fun h => f5.out h), (fun h => f6.out h), (fun h => f7.out h), (fun h => f8.out h), (fun h => f9.out h), (fun h => f10.out h), (fun h => f11.out h), (fun h => f12.out h), (fun h => f13.out h), (fun h => f14.out h), (fun h => f15.out h), (fun h => f16.out h), (fun h => f17.out h), (fun h => f18.out h), (fun h => f19.out h), (fun h => f20.out h), (fun _ => rfl), (fun h => f22.out h), (fun h => f23.out h)⟩
          · intro L vs W hlen hL hD hI K hK
            obtain ⟨x0, x1, x2, x3, x4, x5, x6, x7, x8, x9, x10, x11, x12, x13, x14, x15, x16, x17, x18, x19, x20, x21, x22, x23, rfl⟩ := len24 hlen
            have hG := hI.1
            replace hI := hI.2
            have f0 := hide hI.1
            replace hI := hI.2
            have f1 := hide hI.1
            replace hI := hI.2
            have f2 := hide hI.1
            replace hI := hI.2
            have f3 := hide hI.1
            replace hI := hI.2
            have f4 := hide hI.1
            replace hI := hI.2
            have f5 := hide hI.1
            replace hI := hI.2
            have f6 := hide hI.1
            replace hI := hI.2
            have f7 := hide hI.1
            replace hI := hI.2
            have f8 := hide hI.1
            replace hI := hI.2
            have f9 := hide hI.1
            replace hI := hI.2
            have f10 := hide hI.1
            replace hI := hI.2
            have f11 := hide hI.1
            replace hI := hI.2
            have f12 := hide hI.1
            replace hI := hI.2
            have f13 := hide hI.1
            replace hI := hI.2
            have f14 := hide hI.1
            replace hI := hI.2
            have f15 := hide hI.1
            replace hI := hI.2
            have f16 := hide hI.1
            replace hI := hI.2
            have f17 := hide hI.1
            replace hI := hI.2
            have f18 := hide hI.1
            replace hI := hI.2
            have f19 := hide hI.1
            replace hI := hI.2
            have f20 := hide hI.1
            replace hI := hI.2
            have f21 := hide hI.1
            replace hI := hI.2
            have f22 := hide hI.1
            replace hI := hI.2
            have f23 := hide hI
            clear hI
            have q0 := (hG.below.cell (p := ⟨bl, ol + k * 5, none⟩) (lt_of_cell cl0)).trans cl0
            have q1 := (hG.below.cell (p := ⟨bl, ol + k * 5 + 1, none⟩) (lt_of_cell cl1)).trans cl1
            have q2 := (hG.below.cell (p := ⟨bl, ol + k * 5 + 2, none⟩) (lt_of_cell cl2)).trans cl2
            have q3 := (hG.below.cell (p := ⟨bl, ol + k * 5 + 3, none⟩) (lt_of_cell cl3)).trans cl3
            have q4 := (hG.below.cell (p := ⟨bl, ol + k * 5 + 4, none⟩) (lt_of_cell cl4)).trans cl4
            obtain rfl := f18.out (hD.on 18 (by kernel_rfl))
            obtain rfl := f20.out (hD.on 20 (by kernel_rfl))
            obtain rfl := f21.out (hD.on 21 (by kernel_rfl))
            try simp only [puts, Act.put, List.setIfInBounds_toArray, List.set_cons_zero, List.set_cons_succ]
            try go_simp
            exact hK.out _ _ _ (by simp only [puts, Act.put, List.setIfInBounds_toArray, List.set_cons_zero, List.set_cons_succ] <;> rfl) ⟨hG, (fun h => f0.out h), (fun h => f1.out h), (fun h => f2.out h), (fun h => f3.out h), (fun h => f4.out h), (fun h => f5.out h), (fun h => f6.out h), (fun h => f7.out h), (fun h => f8.out h), (fun h => f9.out h), (fun h => f10.out h), (fun h => f11.out h), (fun h => f12.out h), (fun h => f13.out h), (fun h => f14.out h), (fun h => f15.out h), (fun h => f16.out h), (fun h => f17.out h), (fun h => f18.out h), (fun h => f19.out h), (fun h => f20.out h), (fun h => f21.out h), (fun _ => rfl), (fun h => f23.out h)⟩
          · intro L vs W hlen hL hD hI K hK
            obtain ⟨x0, x1, x2, x3, x4, x5, x6, x7, x8, x9, x10, x11, x12, x13, x14, x15, x16, x17, x18, x19, x20, x21, x22, x23, rfl⟩ := len24 hlen
            have hG := hI.1
            replace hI := hI.2
            have f0 := hide hI.1
            replace hI := hI.2
            have f1 := hide hI.1
            replace hI := hI.2
            have f2 := hide hI.1
            replace hI := hI.2
            have f3 := hide hI.1
            replace hI := hI.2
            have f4 := hide hI.1
            replace hI := hI.2
            have f5 := hide hI.1
            replace hI := hI.2
            have f6 := hide hI.1
            replace hI := hI.2
            have f7 := hide hI.1
            replace hI := hI.2
            have f8 := hide hI.1
            replace hI := hI.2
            have f9 := hide hI.1
            replace hI := hI.2
            have f10 := hide hI.1
            replace hI := hI.2
            have f11 := hide hI.1
            replace hI := hI.2
            have f12 := hide hI.1
            replace hI := hI.2
            have f13 := hide hI.1
            replace hI := hI.2
            have f14 := hide hI.1
            replace hI := hI.2
            have f15 := hide hI.1
            replace hI := hI.2
            have f16 := hide hI.1
            replace hI := hI.2
            have f17 := hide hI.1
            replace hI := hI.2
            have f18 := hide hI.1
            replace hI := hI.2
            have f19 := hide hI.1
            replace hI := hI.2
            have f20 := hide hI.1
            replace hI := hI.2
            have f21 := hide hI.1
            replace hI := hI.2
            have f22 := hide hI.1
            replace hI := hI.2
            have f23 := hide hI
            clear hI
            have q0 := (hG.below.cell (p := ⟨bl, ol + k * 5, none⟩) (lt_of_cell cl0)).trans cl0
            have q1 := (hG.below.cell (p := ⟨bl, ol + k * 5 + 1, none⟩) (lt_of_cell cl1)).trans cl1
            have q2 := (hG.below.cell (p := ⟨bl, ol + k * 5 + 2, none⟩) (lt_of_cell cl2)).trans cl2
            have q3 := (hG.below.cell (p := ⟨bl, ol + k * 5 + 3, none⟩) (lt_of_cell cl3)).trans cl3
            have q4 := (hG.below.cell (p := ⟨bl, ol + k * 5 + 4, none⟩) (lt_of_cell cl4)).trans cl4
            obtain rfl := f18.out (hD.on 18 (by kernel_rfl))
            obtain rfl := f22.out (hD.on 22 (by kernel_rfl))
            try simp only [puts, Act.put, List.setIfInBounds_toArray, List.set_cons_zero, List.set_cons_succ]
            try go_simp
            exact hK.out _ _ _ (by simp only [puts, Act.put, List.setIfInBounds_toArray, List.set_cons_zero, List.set_cons_succ] <;> rfl) ⟨hG, (fun h => f0.out h), (fun h => f1.out h), (fun h => f2.out h), (fun h => f3.out h), (fun h => f4.out h), (fun h => f5.out h), (fun h => f6.out h), (fun h => f7.out h), (fun h => f8.out h), (fun h => f9.out h), (fun h => f10.out h), (fun h => f11.out h), (fun h => f12.out h), (fun h => f13.out h), (fun h => f14.out h), (fun h => f15.out h), (fun h => f16.out h), (fun h => f17.out h), (fun h => f18.out h), (fun h => f19.out h), (fun h => f20.out h), (fun h => f21.out h), (fun h => f22.out h), (fun _ => rfl)⟩
        intro L vs W hlen hall hI
        obtain ⟨x0, x1, x2, x3, x4, x5, x6, x7, x8, x9, x10, x11, x12, x13, x14, x15, x16, x17, x18, x19, x20, x21, x22, x23, rfl⟩ := len24 hlen
        have hG := hI.1
        replace hI := hI.2
        have f0 := hide hI.1
        replace hI := hI.2
        have f1 := hide hI.1
        replace hI := hI.2
        have f2 := hide hI.1
        replace hI := hI.2
        have f3 := hide hI.1
        replace hI := hI.2
        have f4 := hide hI.1
        replace hI := hI.2
        have f5 := hide hI.1
        replace hI := hI.2
        have f6 := hide hI.1
        replace hI := hI.2
        have f7 := hide hI.1
        replace hI := hI.2
        have f8 := hide hI.1
        replace hI := hI.2
        have f9 := hide hI.1
        replace hI := hI.2
        have f10 := hide hI.1
        replace hI := hI.2
        have f11 := hide hI.1
        replace hI := hI.2
        have f12 := hide hI.1
        replace hI := hI.2
        have f13 := hide hI.1
        replace hI := hI.2
        have f14 := hide hI.1
        replace hI := hI.2
        have f15 := hide hI.1
        replace hI := hI.2
        have f16 := hide hI.1
        replace hI := hI.2
        have f17 := hide hI.1
        replace hI := hI.2
        have f18 := hide hI.1
        replace hI := hI.2
        have f19 := hide hI.1
        replace hI := hI.2
        have f20 := hide hI.1
        replace hI := hI.2
        have f21 := hide hI.1
        replace hI := hI.2
        have f22 := hide hI.1
        replace hI := hI.2
        have f23 := hide hI
        clear hI
        obtain rfl := f0.out (hall 0 (by decide))
        obtain rfl := f1.out (hall 1 (by decide))
        obtain rfl := f2.out (hall 2 (by decide))
        obtain rfl := f3.out (hall 3 (by decide))
        obtain rfl := f4.out (hall 4 (by decide))
        obtain rfl := f5.out (hall 5 (by decide))
        obtain rfl := f6.out (hall 6 (by decide))
        obtain rfl := f7.out (hall 7 (by decide))
        have g8 := f8.out (hall 8 (by decide))
        obtain rfl := f9.out (hall 9 (by decide))
        have g10 := f10.out (hall 10 (by decide))
        obtain rfl := f11.out (hall 11 (by decide))
        obtain rfl := f12.out (hall 12 (by decide))
        obtain rfl := f13.out (hall 13 (by decide))
        have g14 := f14.out (hall 14 (by decide))
        have g15 := f15.out (hall 15 (by decide))
        obtain rfl := f16.out (hall 16 (by decide))
        obtain rfl := f17.out (hall 17 (by decide))
        obtain rfl := f18.out (hall 18 (by decide))
        obtain rfl := f19.out (hall 19 (by decide))
        obtain rfl := f20.out (hall 20 (by decide))
        obtain rfl := f21.out (hall 21 (by decide))
        obtain rfl := f22.out (hall 22 (by decide))
        obtain rfl := f23.out (hall 23 (by decide))
        have hal := hide hall
        clear hall f0 f1 f2 f3 f4 f5 f6 f7 f8 f9 f10 f11 f12 f13 f14 f15 f16 f17 f18 f19 f20 f21 f22 f23
        try simp only [puts, Act.put, List.setIfInBounds_toArray, List.set_cons_zero, List.set_cons_succ]
        rw [hal.out 6 (by decide)] at hG
        obtain ⟨pv5, sv5, lv5, d5, hB5, hv5, hp5, hb5⟩ := hG
        obtain ⟨-, rfl⟩ := g8
        obtain ⟨-, qa, aa, ca, -, rfl⟩ := g10
        obtain ⟨-, qb, ab, cb, -, rfl⟩ := g14
        obtain ⟨-, qc, ac, cc, -, rfl⟩ := g15
        obtain ⟨rs, re, hrd, hrr⟩ := read_both (n := m) (B := w.heap.size) ⟨_, _, _, _, _, hB5.A⟩ hm1 hm2 (by omega) hv5 0 m ⟨by decide, by decide⟩
        obtain ⟨W5, rfl⟩ : ∃ W' : World, W' = W := ⟨_, rfl⟩
        have HRD := hide (hrd D U V pv5 W5 hB5.A)
        have HRR := hide (hrr X sv5 lv5 W5 hB5.R)
        clear hrd hrr
        go_wp2_with fail
        refine HRD.out.mono ?_
        rintro e w8 ⟨rfl, hw8⟩
        obtain rfl := hw8
        go_wp2_with fail
        refine HRR.out.mono ?_
        rintro e W8 ⟨rfl, hb8⟩
        go_wp2_with fail
        go_roundw
        case rel => exact ⟨k + 1, pv5, sv5, lv5, d5, by omega, by omega, by go_num, hB5.later hb8, hide ⟨hv5, hp5⟩, hb5.trans (hb8.mono hb5.size)⟩
        case measure => simp [intOf]; omega
      · obtain rfl : k = 60 := by omega
        go_wp2_with fail
        go_ret
        exact ⟨rfl, hbr⟩
    · obtain rfl : k = l.length := by omega
      go_wp2_with fail
      go_ret
      exact ⟨rfl, hbr⟩
end Go.Proofs.Ytednelejpkchbaa
