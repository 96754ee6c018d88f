/- Walks of package statute: who answers, in memory; so, by find. Conditions: the number's range. -/
import Derived.Test.YtdjldidfnddpmaaGreatDoorStV
import Derived.Test.YtdjldidfnddpmaaGreatDoorStW
namespace Go.Proofs.YtdjldidfnddpmaaGreatDoor
open Go.RowKit Go.Maps
/-- who answers: its block, its map -/
structure JudgeAt (w : World) (J M : Nat) (cv rv fv Fv Cv : Value) (c : CodeD) (F C : List Nat) (ks : List Int) : Prop where
  code : CodeIn w.cell? cv rv fv c
  hF : IntsIn w.cell? Fv (intsN F)
  hC : IntsIn w.cell? Cv (intsN C)
  blk : Blk w J [cv, rv, fv, Fv, Cv, .map (some M)] 86
  map : OwnF (fun x => findV (findN c F C x.toNat)) w M ks.length ks
  nod : ks.Nodup
  rng : ∀ k ∈ ks, 0 ≤ k ∧ k ≤ 19
theorem nodup_below : ∀ (n : Nat) {ks : List Int}, ks.Nodup → (∀ k ∈ ks, 0 ≤ k ∧ k < n) → ks.length ≤ n
  | 0, ks, _, hr => by
    cases ks with
    | nil => simp
    | cons k t => have := hr k (by simp); omega
  | n + 1, ks, h, hr => by
    have ih := nodup_below n (ks := ks.erase (n : Int)) (h.erase _) fun k hk => by
      obtain ⟨h1, h2⟩ := (List.Nodup.mem_erase_iff h).1 hk
      have := hr k h2; omega
    by_cases e : (n : Int) ∈ ks
    · rw [List.length_erase_of_mem e] at ih; omega
    · rw [List.erase_of_not_mem e] at ih; omega
theorem nodup_bound {ks : List Int} (h : ks.Nodup) (hr : ∀ k ∈ ks, 0 ≤ k ∧ k ≤ 19) : ks.length ≤ 20 :=
  nodup_below 20 h fun k hk => by have := hr k hk; omega
theorem JudgeAt.small {w : World} {J M : Nat} {cv rv fv Fv Cv : Value} {c : CodeD} {F C : List Nat} {ks : List Int} (h : JudgeAt w J M cv rv fv Fv Cv c F C ks) : ks.length ≤ 20 := nodup_bound h.nod h.rng
theorem JudgeAt.later {w w' : World} {J M : Nat} {cv rv fv Fv Cv : Value} {c : CodeD} {F C : List Nat} {ks : List Int} (h : JudgeAt w J M cv rv fv Fv Cv c F C ks) (hb : Below w.heap.size w w') : JudgeAt w' J M cv rv fv Fv Cv c F C ks :=
  ⟨h.code.below hb, h.hF.keeps (keeps_of_below hb), h.hC.keeps (keeps_of_below hb), h.blk.later hb, h.map.later hb, h.nod, h.rng⟩
theorem grownS {w w' : World} (h : Below w.heap.size w w') (b : Nat) : w.grownBy w' (some b) := ⟨h.os, h.tape, h.output, h.size, fun k hk _ => h.block k hk⟩
theorem grown2 {a b c : World} {m : Nat} (h : a.grownBy b (some m)) (k : b.grownBy c (some m)) : a.grownBy c (some m) :=
  ⟨k.os.trans h.os, k.tape.trans h.tape, k.output.trans h.output, Nat.le_trans h.size k.size, fun i hi hn => (k.block i (Nat.lt_of_lt_of_le hi h.size) hn).trans (h.block i hi hn)⟩
theorem grown_keeps {f : Int → Value} {w w' : World} {b n : Nat} {ks : List Int} (hm : OwnF f w b n ks) (hg : w.grownBy w' (some b)) : Keeps w.cell? w'.cell? := fun a v hc => by
  have h1 := hm.no_cell hc
  rw [World.cell?_of_block (hg.block a.block (lt_of_cell hc) (by simp; exact h1))]; exact hc
theorem grown_blk {f : Int → Value} {w w' : World} {b n : Nat} {ks : List Int} (hm : OwnF f w b n ks) (hg : w.grownBy w' (some b)) {c : Nat} {vs : List Value} {t : TypeId} (hc : Blk w c vs t) : Blk w' c vs t :=
  (hg.block c hc.lt (by simp; exact hm.no_blk hc)).trans hc
/-- a number is put in -/
theorem JudgeAt.put {w w' : World} {J M : Nat} {cv rv fv Fv Cv : Value} {c : CodeD} {F C : List Nat} {ks : List Int} {x : Int} (h : JudgeAt w J M cv rv fv Fv Cv c F C ks) (hg : w.grownBy w' (some M)) (hm : OwnF (fun x => findV (findN c F C x.toNat)) w' M (ks.length + 1) (ks ++ [x])) (hx : x ∉ ks) (h0 : 0 ≤ x) (h1 : x ≤ 19) : JudgeAt w' J M cv rv fv Fv Cv c F C (ks ++ [x]) :=
  have K := grown_keeps h.map hg
  ⟨h.code.keeps K, h.hF.keeps K, h.hC.keeps K, grown_blk h.map hg h.blk, by simpa using hm, by rw [List.nodup_append]; exact ⟨h.nod, by simp, fun a ha b hb => by simp at hb; subst hb; exact fun e => hx (e ▸ ha)⟩, fun k hk => by
    rcases List.mem_append.1 hk with hk | hk
    · exact h.rng k hk
    · simp at hk; omega⟩
/-- so has answered -/
def SoQ (J M : Nat) (cv rv fv Fv Cv : Value) (c : CodeD) (F C : List Nat) (ks : List Int) (x : Int) (w : World) (e : Ending) (w' : World) : Prop :=
  e = .returned (.bool (findN c F C x.toNat).holds) ∧ w.grownBy w' (some M) ∧ ∃ ks', JudgeAt w' J M cv rv fv Fv Cv c F C ks' ∧ (∀ k ∈ ks, k ∈ ks') ∧ x ∈ ks' ∧ ∀ k ∈ ks', k ∈ ks ∨ k ≤ x
/-- find has answered -/
def FindQ (J M : Nat) (cv rv fv Fv Cv : Value) (c : CodeD) (F C : List Nat) (ks : List Int) (x : Int) (w : World) (e : Ending) (w' : World) : Prop :=
  e = .returned (findV (findN c F C x.toNat)) ∧ w.grownBy w' (some M) ∧ ∃ ks', JudgeAt w' J M cv rv fv Fv Cv c F C ks' ∧ (∀ k ∈ ks, k ∈ ks') ∧ ∀ k ∈ ks', k ∈ ks ∨ k < x
set_option maxHeartbeats 1000000 in
theorem soS_of (J M : Nat) (cv rv fv Fv Cv : Value) (c : CodeD) (F C : List Nat) (x : Int) (h0 : 0 ≤ x) (h1 : x ≤ 19)
    (HF : ∀ w ks, JudgeAt w J M cv rv fv Fv Cv c F C ks → Calls Tryz.prog 53 #[.pointer (some ⟨J, 0, none⟩), .int .i64 x] w (FindQ J M cv rv fv Fv Cv c F C ks x w))
    (w : World) (ks : List Int) (h : JudgeAt w J M cv rv fv Fv Cv c F C ks) : Calls Tryz.prog 26 #[.pointer (some ⟨J, 0, none⟩), .int .i64 x] w (SoQ J M cv rv fv Fv Cv c F C ks x w) := by
  have HFi := hide HF
  clear HF
  have hlook := h.map.look (x := x) (by omega) (by omega)
  have m5 := h.blk.cell 5 rfl
  by_cases hx : x ∈ ks
  · rw [if_pos hx, decide_eq_true hx] at hlook
    go_enter Tryz.func26, Tryz.ntmps26
    go_wp2_with fail
    go_ret
    have hb := bal w (.cells #[.int .i64 (findN c F C x.toNat).says, .bool (findN c F C x.toNat).holds, .int .i64 (findN c F C x.toNat).fact, .int .i64 (findN c F C x.toNat).clause] 66)
    exact ⟨rfl, grownS hb M, ks, h.later hb, fun _ h => h, hx, fun _ h => .inl h⟩
  · rw [if_neg hx, decide_eq_false hx] at hlook
    have H := hide h
    clear h
    go_enter Tryz.func26, Tryz.ntmps26
    go_wp2_with fail
    generalize hX1 : World.alloc w _ = X1
    have zX1 : X1.heap.size = w.heap.size + 1 := by rw [← hX1]; simp
    have bX1 : Below w.heap.size w X1 := by rw [← hX1]; exact bal w _
    have bF : Blk X1 (w.heap.size) (findC find0) 66 := by rw [← hX1]; exact Blk.newA w _ (by first | rfl | simp)
    have Xb := bX1
    have Xz := zX1
    clear hX1 zX1 bX1
    have H1 := hide (H.out.later Xb)
    refine (HFi.out _ ks H1.out).mono ?_
    rintro e w2 ⟨rfl, hg2, ks2, hJ2, hs2, hl2⟩
    have bF2 := grown_blk H1.out.map hg2 bF
    have z0 := bF2.frozen 0
    have z1 := bF2.frozen 1
    have z2 := bF2.frozen 2
    have z3 := bF2.frozen 3
    have y0 := bF2.cell 0 rfl
    have y1 := bF2.cell 1 rfl
    have y2 := bF2.cell 2 rfl
    have y3 := bF2.cell 3 rfl
    have hne : w.heap.size ≠ J := by
      have hJ := H.out.blk.lt; omega
    have J5 := ((((((hJ2.blk.other hne.symm 0 (.int .i64 (findN c F C x.toNat).says)).other hne.symm 1 (.bool (findN c F C x.toNat).holds)).other hne.symm 2 (.int .i64 (findN c F C x.toNat).fact)).other hne.symm 3 (.int .i64 (findN c F C x.toNat).clause))).cell 5 rfl)
    have H2 := hide hJ2
    have HX := hide hx
    have HS2 := hide hs2
    have HL2 := hide hl2
    have HG2 := hide hg2
    have HB := hide bF2
    have HXb := hide Xb
    clear hJ2 hx hs2 hl2 hg2 bF2 Xb bF hlook m5 Xz
    generalize hy : findN c F C x.toNat = y at J5 ⊢
    have HY := hide hy
    clear hy
    go_wp2_with fail
    have bF3 : Blk ((((w2.setCell ⟨w.heap.size, 0, none⟩ (.int .i64 y.says)).setCell ⟨w.heap.size, 1, none⟩ (.bool y.holds)).setCell ⟨w.heap.size, 2, none⟩ (.int .i64 y.fact)).setCell ⟨w.heap.size, 3, none⟩ (.int .i64 y.clause)) w.heap.size (findC y) 66 := ((((HB.out.set 0 (.int .i64 y.says)).set 1 (.bool y.holds)).set 2 (.int .i64 y.fact)).set 3 (.int .i64 y.clause))
    have hMne : M ≠ w.heap.size := by have := H.out.map.lt; omega
    have hM3 := World.ownsMap.setCell (World.ownsMap.setCell (World.ownsMap.setCell (World.ownsMap.setCell H2.out.map (a := ⟨w.heap.size, 0, none⟩) hMne (.int .i64 y.says)) (a := ⟨w.heap.size, 1, none⟩) hMne (.bool y.holds)) (a := ⟨w.heap.size, 2, none⟩) hMne (.int .i64 y.fact)) (a := ⟨w.heap.size, 3, none⟩) hMne (.int .i64 y.clause)
    have g2 : w.grownBy w2 (some M) := grown2 (grownS HXb.out M) HG2.out
    have gset : ∀ (b : World), w.grownBy b (some M) → ∀ j u, w.grownBy (b.setCell ⟨w.heap.size, j, none⟩ u) (some M) := fun b h j u => ⟨h.os, h.tape, h.output, by have := h.size; simpa [World.setCell] using this, fun i hi hn => (Below.heap_setCell b ⟨w.heap.size, j, none⟩ u i (by show i ≠ w.heap.size; omega)).trans (h.block i hi hn)⟩
    have g3 := gset _ (gset _ (gset _ (gset _ g2 0 (.int .i64 y.says)) 1 (.bool y.holds)) 2 (.int .i64 y.fact)) 3 (.int .i64 y.clause)
    clear gset g2
    generalize ((((w2.setCell ⟨w.heap.size, 0, none⟩ (.int .i64 y.says)).setCell ⟨w.heap.size, 1, none⟩ (.bool y.holds)).setCell ⟨w.heap.size, 2, none⟩ (.int .i64 y.fact)).setCell ⟨w.heap.size, 3, none⟩ (.int .i64 y.clause)) = w3 at bF3 hM3 g3 J5 ⊢
    have K3 := grown_keeps H.out.map g3
    have HJ3 : Hid (JudgeAt w3 J M cv rv fv Fv Cv c F C ks2) := hide ⟨H.out.code.keeps K3, H.out.hF.keeps K3, H.out.hC.keeps K3, grown_blk H.out.map g3 H.out.blk, hM3, H2.out.nod, H2.out.rng⟩
    have hs20 := H2.out.small
    obtain ⟨wn, hput, hMn, gn⟩ := OwnF.put (f := fun x => findV (findN c F C x.toNat)) (w := w3.drew) hM3 (x := x) (by omega) (by omega) (by omega)
    have hput' : (Instr.mapUpdate 84 (.map (some M)) (.int .i64 x) (findV y)).run Tryz.prog w3.drew = .ok () wn := by rw [← HY.out]; exact hput
    have y0 := bF3.cell 0 rfl
    have y1 := bF3.cell 1 rfl
    have y2 := bF3.cell 2 rfl
    have y3 := bF3.cell 3 rfl
    have HK3 := hide K3
    have HG3 := hide g3
    have HMn := hide hMn
    have HGn := hide gn
    have HF3 := hide bF3
    have hno := hide (OwnF.no_blk hM3 bF3)
    clear hput K3 g3 hMn gn bF3 hM3 hMne z0 z1 z2 z3 hne hs20
    go_region
    have gn' : w3.grownBy wn (some M) := ⟨HGn.out.os, HGn.out.tape, HGn.out.output, HGn.out.size, HGn.out.block⟩
    have bFn := grown_blk HJ3.out.map gn' HF3.out
    have u1 := bFn.cell 1 rfl
    have HGn' := hide gn'
    clear gn' bFn y0 y1 y2 y3 J5 hput'
    go_wp2_with fail
    go_ret
    have hx2 : x ∉ ks2 := fun hm => by
      rcases HL2.out x hm with h3 | h3
      · exact HX.out h3
      · omega
    exact ⟨by rw [HY.out]; rfl, grown2 HG3.out HGn'.out, ks2 ++ [x], HJ3.out.put HGn'.out HMn.out hx2 h0 h1, fun k hk => List.mem_append_left _ (HS2.out k hk), by simp, fun k hk => by
      rcases List.mem_append.1 hk with h3 | h3
      · rcases HL2.out k h3 with h4 | h4
        · exact .inl h4
        · exact .inr (by omega)
      · simp at h3; exact .inr (by omega)⟩
end Go.Proofs.YtdjldidfnddpmaaGreatDoor
