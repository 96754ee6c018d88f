/- The walk of DiskCrashBytes. Conditions: that integers are of 64 bits; how the lists lie in memory. -/
import Derived.Test.YtednelejpkchbaaLkG
import Derived.Test.YtednelejpkchbaaPlL
namespace Go.Proofs.Ytednelejpkchbaa
open Go.RowKit

/-- a list of truth values in memory -/
def BoolsIn (c : Rd) (v : Value) (l : List Bool) : Prop :=
  ∃ a n, v = .slice a l.length n ∧ l.length ≤ n ∧ n ≤ 9223372036854775807 ∧ ∀ k, k < l.length → ∃ b o, a = some ⟨b, o, none⟩ ∧ c ⟨b, o + k, none⟩ = some (.bool (l.getD k false))
theorem bool_out {l : List Bool} {k : Nat} (h : ¬ k < l.length) : l.getD k false = false := by
  rw [List.getD_eq_getElem?_getD, List.getElem?_eq_none (by omega)]; rfl
def wsF (n : Nat) (l : List WPar) (i : Nat) : Nat × List UInt8 := (offN n (l.getD i wp0), (strN n (l.getD i wp0)).data.toList)
/-- a disk behind k writes -/
def runX (n : Nat) (d : DiskD) (l : List WPar) : Nat → DiskD
  | 0 => d
  | k + 1 => putD (runX n d l k) (wsF n l k).1 (wsF n l k).2
theorem runX_dur (n : Nat) (d : DiskD) (l : List WPar) : ∀ k, (runX n d l k).dur = d.dur
  | 0 => rfl
  | k + 1 => runX_dur n d l k
theorem runX_pend (n : Nat) (d : DiskD) (l : List WPar) (h : d.pend = []) : ∀ k, (runX n d l k).pend.length = k ∧ ∀ i, i < k → (runX n d l k).pend.getD i pend0 = (((wsF n l i).1 : Int), (wsF n l i).2)
  | 0 => ⟨by simp [runX, h], fun i hi => by omega⟩
  | k + 1 => by
    obtain ⟨h1, h2⟩ := runX_pend n d l h k
    refine ⟨by simp [runX, putD, h1], fun i hi => ?_⟩
    show ((runX n d l k).pend ++ [(((wsF n l k).1 : Int), (wsF n l k).2)]).getD i pend0 = _
    by_cases e : i < k
    · rw [getD_app_left _ _ _ _ (by omega)]; exact h2 i e
    · obtain rfl : i = k := by omega
      rw [getD_app_right _ _ _ _ (by omega), h1, Nat.sub_self]; rfl
theorem cutS_data (s : ByteArray) (n : Nat) : (cutS s n).data.toList = s.data.toList.take (min n s.size) := by
  unfold cutS
  rw [ByteArray.data_extract]
  simp [Nat.min_comm]
theorem byte_of (k : Nat) : Value.int .u8 ((48 : Int) + ((k : Int) % 10)) = byteV (UInt8.ofNat (48 + k % 10)) := by
  unfold byteV
  have h : k % 10 < 10 := Nat.mod_lt _ (by omega)
  have e : (UInt8.ofNat (48 + k % 10)).toNat = 48 + k % 10 := by
    rw [UInt8.toNat_ofNat']; omega
  rw [e]
  congr 1
theorem wantF_len (n : Nat) (l : List WPar) (kp : List Bool) (la torn : Int) (b : List UInt8) (hb : b.length = n) : ∀ k, (wantF (wsF n l) kp la torn b k).length = n
  | 0 => hb
  | k + 1 => by
    have ih := wantF_len n l kp la torn b hb k
    have hf := fit_in n (l.getD k wp0)
    have hs : (strN n (l.getD k wp0)).data.toList.length = (strN n (l.getD k wp0)).size := by simp
    rw [wantF]
    split
    · rw [length_splice _ _ _ ?_]
      · exact ih
      · rw [ih]
        show offN n (l.getD k wp0) + _ ≤ n
        split
        · have : (tornT torn (wsF n l k).2).length ≤ (strN n (l.getD k wp0)).data.toList.length := by
            unfold tornT; rw [List.length_take]; exact Nat.min_le_right _ _
          omega
        · show offN n (l.getD k wp0) + (strN n (l.getD k wp0)).data.toList.length ≤ n
          omega
    · exact ih
theorem own_lit1 (w : World) (y : Int) {B : Nat} (hB : B ≤ w.heap.size) : OwnI (w.alloc (.cells #[.int .i64 y] 3)) B (.slice (some ⟨w.heap.size, 0, none⟩) 1 1) [y] :=
  World.ownsRow_lit w #[.int .i64 y] 1 hB (by unfold maxLen; omega) (by simp)
set_option maxRecDepth 20000 in
set_option maxHeartbeats 4000000 in
theorem bytes_any (size : Int) (l : List WPar) (lv : Value) (kp : List Bool) (kv : Value) (torn : Int) (w : World) (h1 : i64B size) (hl : WParsIn w.cell? lv l) (hk : BoolsIn w.cell? kv kp) (h2 : i64B torn) :
    Calls Try.prog 8 #[.int .i64 size, lv, kv, .int .i64 torn] w (Ret (.bool true) w) := by
  obtain ⟨la, lc, rfl, hlc, hlc2, hlw⟩ := hl
  have HLW := hide hlw
  clear hlw
  obtain ⟨n0, hn0, hn0'⟩ : ∃ n0 : Nat, pickF size 100 = n0 ∧ n0 < 100 := ⟨(pickF size 100).toNat, by have := pickF_nonneg size (n := 100) (by decide); omega, by have := pickF_lt size (n := 100) (by decide); omega⟩
  have HPK := hide (fun W => pick_any size 100 W h1.1 h1.2 (by decide) (by decide))
  rw [hn0] at HPK
  clear hn0
  obtain ⟨ka, kc, rfl, hkc, hkc2, hkw⟩ := hk
  have HKW := hide hkw
  clear hkw
  go_enter Try.func8, Try.ntmps8
  go_wp2_with fail
  refine (sane_any w).mono ?_
  rintro e w1 ⟨rfl, hb1⟩
  go_wp2_with fail
  refine (HPK.out w1).mono ?_
  rintro e w2 ⟨rfl, hw2⟩
  obtain rfl := hw2.symm
  go_wp2_with fail
  refine (new_any (1 + (n0 : Int)) w1).mono ?_
  rintro e w2 (⟨hn, -, -⟩ | ⟨m, D, U, V, hm, hm1, hm2, rfl, hDB, hUB, hVB, hA, hL⟩)
  · exact absurd ⟨by omega, by omega⟩ hn
  rw [hm]
  have hO := on_new hA (Nat.le_trans hb1.size hDB) (Nat.le_trans hb1.size hUB) (Nat.le_trans hb1.size hVB)
  have hm3 : m ≤ 100 := by omega
  have hbw := below2 hb1 hL
  have hUl := hA.hU.lt
  have hVl := hA.hV.lt
  have hmk := @mkBytes m (by omega)
  clear hb1 hm hA hDB hUB hVB hL
  go_wp2_with fail
  generalize hX : World.alloc w2 _ = X
  have hbX : Below w2.heap.size w2 X := by rw [← hX]; exact bal w2 _
  have bb : Blk X w2.heap.size (bytesV (List.replicate m 0)) 5 := by rw [← hX]; exact Blk.newA w2 _ rfl
  have hOX := hO.later hbX
  have hbX' := below2 hbw hbX
  have HN := hide (And.intro (show w2.heap.size ≠ U by omega) (And.intro (show w2.heap.size ≠ V by omega) hbw.size))
  have hBX := hbX'.size
  clear hX hbX hO hUl hVl hmk hbw
  generalize w2.heap.size = b at *
  go_loopw [13] (fun i wr => ∃ (k : Nat) (L : List UInt8), k ≤ m ∧ i = .int .i64 k ∧ L.length = m ∧ Blk wr b (bytesV L) 5 ∧ OnDisk m w.heap.size wr D U V (.slice none 0 0) (disk0 m) ∧ Below w.heap.size w wr) (fun i _ => m - (intOf i).toNat)
  case atStart => exact ⟨0, _, by omega, rfl, by simp, bb, hOX, hbX'⟩
  case round =>
    obtain ⟨k, L, hk, rfl, hL, bq, hQ, hbq⟩ := hrel
    by_cases hlt : k < m
    · have c0 := bq.cell k (bytes_at L k (by omega))
      have c0' : wr.cell? ⟨b, k, none⟩ = some (.int .u8 ((L.getD k 0).toNat : Int)) := c0
      have f0 := bq.frozen k
      have hN := HN.out
      have hES := hide (Eff.setCell wr b k)
      have hoff := hide (off_set hQ.hA bq hN.1 hN.2.1)
      generalize L.getD k 0 = z at c0'
      clear c0 hN
      go_wp2_with fail
      have hE := hES.out (.int .u8 ((48 : Int) + ((k : Int) % 10)))
      go_roundw
      case rel =>
        refine ⟨k + 1, L.set k (UInt8.ofNat (48 + k % 10)), by omega, by go_num, by simpa using hL, ?_, hQ.eff hE (fun q hq e => hoff.out (by rw [← show q = b from e]; exact hq)), hbq.trans (hE.below hbq.size (fun q hq => by rw [show q = b from hq]; exact HN.out.2.2))⟩
        rw [bytes_set, ← byte_of]
        exact bq.set k _
      case measure => simp [intOf]; omega
    · obtain rfl : m = k := by omega
      clear hOX hbX' bb
      obtain ⟨L', hL'⟩ : ∃ L', L' = L := ⟨_, rfl⟩
      have hconv := blk_str bq hL
      have hw0 := write_on 0 ⟨L.toArray⟩ hQ hbq.size (by omega) (by rw [basz, hL]; omega) (Nat.zero_lt_succ _)
      have HW0 := hide hw0
      have hoffB := off_set hQ.hA bq HN.out.1 HN.out.2.1
      clear hw0 hL'
      go_wp2_with fail
      refine HW0.out.mono ?_
      rintro e w3 ⟨rfl, pv3, hO3, hE3, hob3⟩
      have bb3 := bq.eff hE3 hoffB
      have hbr3 := hbq.trans (hE3.below hbq.size hQ.low)
      have HS3 := hide (sync_do hO3 hbr3.size)
      have hoffB := off_set hO3.hA bb3 HN.out.1 HN.out.2.1
      clear HW0 hconv hQ hbq bq hE3 hob3
      go_wp2_with fail
      refine HS3.out.mono ?_
      rintro e w4 ⟨rfl, pv4, hO4, hE4, hob4⟩
      have bb4 := bb3.eff hE4 hoffB
      have hbr4 := hbr3.trans (hE4.below hbr3.size hO3.low)
      have hd1 : syncD (putD (disk0 m) 0 (⟨L.toArray⟩ : ByteArray).data.toList) = ⟨false, 0, L, L, []⟩ := by
        show DiskD.mk false 0 (splice (List.replicate m 0) 0 L) (splice (List.replicate m 0) 0 L) [] = _
        rw [splice_full _ _ (by simpa using hL)]
      rw [hd1] at hO4
      clear HS3 hoffB hO3 hbr3 bb3 hE4 hob4 hd1
      go_wp2_with fail
      have hlc3 : (l.length : Int) ≤ 9223372036854775807 := by omega
      have hkc3 : (kp.length : Int) ≤ 9223372036854775807 := by omega
      obtain ⟨N, hNd⟩ : ∃ N, N = min l.length 20 := ⟨_, rfl⟩
      have HNd := hide hNd
      clear hNd
      go_loop [14, 15] (fun la i => ∃ k : Nat, k ≤ l.length ∧ k ≤ 20 ∧ i = .int .i64 k ∧ la = .int .i64 (lastF kp k)) (fun _ i => l.length - (intOf i).toNat)
      case atStart => exact ⟨0, by omega, by omega, rfl, rfl⟩
      case round =>
        obtain ⟨k, hk, hk20, rfl, rfl⟩ := hrel
        by_cases hlt : k < l.length
        · by_cases h20 : k < 20
          · have HLS : Hid (lastF kp (k + 1) = if kp.getD k false then (k : Int) else lastF kp k) := hide rfl
            by_cases hkp : k < kp.length
            · obtain ⟨bk, ok, rfl, ck⟩ := HKW.out k hkp
              have ck' := keep hbr4 ck
              clear ck
              generalize hv : kp.getD k false = v at ck'
              cases v
              · have HL2 : Hid (lastF kp (k + 1) = lastF kp k) := hide (by rw [HLS.out, hv]; rfl)
                clear hv
                go_wp2_with fail
                go_round
                case rel => exact ⟨k + 1, by omega, by omega, by go_num, by rw [HL2.out]⟩
                case measure => simp [intOf]; omega
              · have HL2 : Hid (lastF kp (k + 1) = (k : Int)) := hide (by rw [HLS.out, hv]; rfl)
                clear hv
                go_wp2_with fail
                go_round
                case rel => exact ⟨k + 1, by omega, by omega, by go_num, by rw [HL2.out]⟩
                case measure => simp [intOf]; omega
            · have HL2 : Hid (lastF kp (k + 1) = lastF kp k) := hide (by rw [HLS.out, bool_out hkp]; rfl)
              go_wp2_with fail
              go_round
              case rel => exact ⟨k + 1, by omega, by omega, by go_num, by rw [HL2.out]⟩
              case measure => simp [intOf]; omega
          · obtain rfl : k = 20 := by omega
            have HE : Hid (N = 20) := hide (by rw [HNd.out]; omega)
            have hla : lastF kp 20 = lastF kp N := by rw [HE.out]
            rw [hla]
            have hla1 := lastF_ge kp N
            have hla2 := lastF_lt kp N
            have hN20 : N ≤ 20 := by have := HNd.out; omega
            have HCW := hide (fun d hd1 hd2 => crash_want (wsF m l) kp torn N d hd1 hd2)
            have HSP := hide (lastF_spec kp N)
            generalize lastF kp N = LA at *
            clear hla HE
            go_wp2_with fail
            go_loopw [16, 17] (fun al i wr => ∃ (k : Nat) (pv : Value), k ≤ l.length ∧ k ≤ 20 ∧ i = .int .i64 k ∧ OwnI wr w.heap.size al (toI (keptL kp k)).reverse ∧ OnDisk m w.heap.size wr D U V pv (runX m ⟨false, 0, L, L, []⟩ l k) ∧ Blk wr b (bytesV (wantF (wsF m l) kp LA torn L k)) 5 ∧ Below w.heap.size w wr) (fun _ i _ => l.length - (intOf i).toNat)
            case atStart => exact ⟨0, _, by omega, by omega, rfl, OwnI.nil _ _, hO4, bb4, hbr4⟩
            case round =>
              obtain ⟨k, pv, hk, hk60, rfl, hown, hO, bb, hbr⟩ := hrel
              by_cases hlt : k < l.length
              · by_cases h60 : k < 20
                · obtain ⟨i1, i2, bl, ol, rfl, cl0, cl1, cl2⟩ := HLW.out k hlt
                  have c0 := keep hbr cl0
                  have c1 := keep hbr cl1
                  have c2 := keep hbr cl2
                  have HFIT := hide (fit_in m (l.getD k wp0))
                  have hfits := fits_any (l.getD k wp0) m wr i1 i2 (by omega)
                  have HRX : Hid (runX m ⟨false, 0, L, L, []⟩ l (k + 1) = putD (runX m ⟨false, 0, L, L, []⟩ l k) (offN m (l.getD k wp0)) (strN m (l.getD k wp0)).data.toList) := hide rfl
                  have HWF : Hid (wantF (wsF m l) kp LA torn L (k + 1) = if kp.getD k false then splice (wantF (wsF m l) kp LA torn L k) (offN m (l.getD k wp0)) (if (k : Int) = LA ∧ 0 ≤ torn then tornT torn (strN m (l.getD k wp0)).data.toList else (strN m (l.getD k wp0)).data.toList) else wantF (wsF m l) kp LA torn L k) := hide rfl
                  have HWL := hide (wantF_len m l kp LA torn L hL k)
                  have HKS := hide (keptL_succ kp k)
                  have HKL := hide (keptL_len kp k)
                  have HPL := hide ((runX_pend m ⟨false, 0, L, L, []⟩ l rfl k).1)
                  generalize offN m (l.getD k wp0) = o at *
                  generalize strN m (l.getD k wp0) = s at *
                  generalize l.getD k wp0 = p at *
                  generalize runX m ⟨false, 0, L, L, []⟩ l k = d at *
                  generalize wantF (wsF m l) kp LA torn L k = W0 at *
                  obtain ⟨po, ps, py⟩ := p
                  clear i1 i2 cl0 cl1 cl2
                  have HF := hide hfits
                  clear hfits
                  go_wp2_with fail
                  refine HF.out.mono ?_
                  rintro e w3 ⟨rfl, hb3⟩
                  have hO3 := hO.later hb3
                  have hbr3 := below2 hbr hb3
                  have bb3 := bb.later hb3
                  have hown3 := hown.later hb3
                  clear hO hbr bb hown HF c0 c1 c2 hb3
                  go_wp2_with fail
                  generalize hX4 : World.alloc w3 _ = w4
                  have hb4 : Below w3.heap.size w3 w4 := by rw [← hX4]; exact bal w3 _
                  have bW : Blk w4 w3.heap.size [.int .i64 o, .string s, .bool py] 53 := by rw [← hX4]; exact Blk.newA w3 _ rfl
                  have hO4 := hO3.later hb4
                  have hbr4 := below2 hbr3 hb4
                  have bb4 := bb3.later hb4
                  have hown4 := hown3.later hb4
                  clear hX4 hb4 hO3 hbr3 bb3 hown3
                  have HWR := hide (write_on o s hO4 hbr4.size (by omega) HFIT.out (by have := HPL.out; omega))
                  have hoffW := off_typ hO4.hA bW (by decide) (by decide) (by decide)
                  have hoffB := off_set hO4.hA bb4 HN.out.1 HN.out.2.1
                  have hoffO := own_off hO4.hA hown4
                  have b0 := bW.cell 0 rfl
                  have b1 := bW.cell 1 rfl
                  go_wp2_with fail
                  refine HWR.out.mono ?_
                  rintro e w5 ⟨rfl, pv5, hO5, hE5, hob5⟩
                  have bW5 := bW.eff hE5 hoffW
                  have bb5 := bb4.eff hE5 hoffB
                  have hown5 := hown4.eff hE5 (fun g hg h => hoffO g h hg.symm)
                  have hbr5 := hbr4.trans (hE5.below hbr4.size hO4.low)
                  clear b0 b1 HWR hoffW hoffB hoffO hO4 bW bb4 hown4 hbr4 hE5 hob5
                  by_cases hkp : k < kp.length
                  · obtain ⟨bk, ok, rfl, ck⟩ := HKW.out k hkp
                    have ck' := keep hbr5 ck
                    clear ck
                    generalize hv : kp.getD k false = v at ck' HWF HKS
                    clear hv
                    cases v
                    · skip
                      have HW2 : Hid (wantF (wsF m l) kp LA torn L (k + 1) = W0) := hide HWF.out
                      have HK2 : Hid (keptL kp (k + 1) = keptL kp k) := hide (by rw [HKS.out]; simp)
                      go_wp2_with fail
                      go_roundw
                      case rel => exact ⟨k + 1, pv5, by omega, by omega, by go_num, by rw [HK2.out]; exact hown5, by rw [HRX.out]; exact hO5, by rw [HW2.out]; exact bb5, hbr5⟩
                      case measure => simp [intOf]; omega
                    · have b0 := bW5.cell 0 rfl
                      have b1 := bW5.cell 1 rfl
                      have HB0 := hide b0
                      have HB1 := hide b1
                      have HK2 : Hid ((toI (keptL kp (k + 1))).reverse = [(k : Int)] ++ (toI (keptL kp k)).reverse) := hide (by rw [HKS.out]; simp [toI])
                      have hRl : (toI (keptL kp k)).reverse.length ≤ k := by have := HKL.out; simp [toI]; exact this
                      generalize (toI (keptL kp k)).reverse = R at *
                      have HON := hide hown5
                      have hownlen : R.length < 1000000 := by omega
                      have hlit : ∀ X, X = w5.alloc (.cells #[.int .i64 (k : Int)] 3) → OwnI X w.heap.size (.slice (some ⟨w5.heap.size, 0, none⟩) 1 1) [(k : Int)] := fun X e => by rw [e]; exact own_lit1 w5 k hbr5.size
                      have HLI := hide hlit
                      have HBS := hide hbr5.size
                      have HBM := hide hbr5
                      have HMA : Hid (1 + R.length < 1000000) := hide (by omega)
                      have hsz5 : (s.size : Int) ≤ 9223372036854775807 := by have := HFIT.out; omega
                      have HLA := hide (And.intro hla1 hla2)
                      clear hownlen hlit hla1 hla2
                      obtain ⟨na, nc, hnv⟩ := hown5.form
                      subst hnv
                      by_cases hla : (k : Int) = LA
                      · by_cases ht : 0 ≤ torn
                        · obtain ⟨tn, rfl⟩ : ∃ tn : Nat, torn = tn := ⟨torn.toNat, by omega⟩
                          have HCT := hide (fun W => cut_any s tn W hsz5 (by have := h2.2; omega))
                          have e2 : decide ((0 : Int) ≤ (tn : Int)) = true := by simp
                          have e3 : ((k : Int) == LA) = true := by simpa using hla
                          have HW2 : Hid (wantF (wsF m l) kp LA tn L (k + 1) = splice W0 o (cutS s tn).data.toList) := hide (by rw [HWF.out, if_pos rfl, if_pos ⟨hla, ht⟩, cutS_data]; unfold tornT; simp)
                          have HFT : Hid (o + (cutS s tn).size ≤ m) := hide (by have := HFIT.out; rw [cutS_size]; omega)
                          clear hla ht
                          go_wp2_with (at_builtin; refine app_intsE rfl _ _ rfl w.heap.size (.slice (some ⟨w5.heap.size, 0, none⟩) 1 1) [(k : Int)] rfl (HLI.out _ rfl) _ R rfl ?_ HMA.out (Nat.le_trans HBS.out (by simp)) ?_; exact HON.out.ints.below (bal w5 _); intro v' w6 hown6 hE6 hob6; have hb6 : Below w5.heap.size w5 w6 := (bal w5 _).trans (hE6.below (by simp) (fun q hq => by have : q = w5.heap.size := Option.some.inj hq; omega)); have b0 := keep hb6 HB0.out; have b1 := keep hb6 HB1.out)
                          refine (HCT.out w6).mono ?_
                          rintro e w7 ⟨rfl, hw7⟩
                          obtain rfl := hw7
                          have bb6 := bb5.later hb6
                          have hO6 := hO5.later hb6
                          have hbr6 := below2 HBM.out hb6
                          have hput := put_any b o (cutS s tn) W0 m w6 bb6 (by rw [HWL.out]; exact (HFT).out) (by rw [HWL.out]; omega)
                          rw [HWL.out] at hput
                          have HPU := hide hput
                          clear hput
                          go_wp2_with fail
                          refine HPU.out.mono ?_
                          rintro e w8 ⟨rfl, bb8, hE8⟩
                          have hO8 := hO6.eff hE8 (fun q hq e => off_set hO6.hA bb6 HN.out.1 HN.out.2.1 (by rw [← show q = b from e]; exact hq))
                          have hown8 := hown6.eff hE8 (fun g hg e => hown6.neT bb6 (by decide) (by rw [hg, show g = b from e]))
                          have hbr8 := hbr6.trans (hE8.below hbr6.size (fun q hq => by rw [show q = b from hq]; exact HN.out.2.2))
                          go_wp2_with fail
                          go_roundw
                          case rel => exact ⟨k + 1, pv5, by omega, by omega, by go_num, by rw [HK2.out]; exact hown8, by rw [HRX.out]; exact hO8, by rw [HW2.out]; exact bb8, hbr8⟩
                          case measure => simp [intOf]; omega
                        · have e2 : decide (0 ≤ torn) = false := decide_eq_false ht
                          have e3 : ((k : Int) == LA) = true := by simpa using hla
                          have HW2 : Hid (wantF (wsF m l) kp LA torn L (k + 1) = splice W0 o s.data.toList) := hide (by rw [HWF.out, if_pos rfl, if_neg (fun h => ht h.2)])
                          clear hla ht
                          go_wp2_with (at_builtin; refine app_intsE rfl _ _ rfl w.heap.size (.slice (some ⟨w5.heap.size, 0, none⟩) 1 1) [(k : Int)] rfl (HLI.out _ rfl) _ R rfl ?_ HMA.out (Nat.le_trans HBS.out (by simp)) ?_; exact HON.out.ints.below (bal w5 _); intro v' w6 hown6 hE6 hob6; have hb6 : Below w5.heap.size w5 w6 := (bal w5 _).trans (hE6.below (by simp) (fun q hq => by have : q = w5.heap.size := Option.some.inj hq; omega)); have b0 := keep hb6 HB0.out; have b1 := keep hb6 HB1.out)
                          have bb6 := bb5.later hb6
                          have hO6 := hO5.later hb6
                          have hbr6 := below2 HBM.out hb6
                          have hput := put_any b o (s) W0 m w6 bb6 (by rw [HWL.out]; exact (HFIT).out) (by rw [HWL.out]; omega)
                          rw [HWL.out] at hput
                          have HPU := hide hput
                          clear hput
                          go_wp2_with fail
                          refine HPU.out.mono ?_
                          rintro e w8 ⟨rfl, bb8, hE8⟩
                          have hO8 := hO6.eff hE8 (fun q hq e => off_set hO6.hA bb6 HN.out.1 HN.out.2.1 (by rw [← show q = b from e]; exact hq))
                          have hown8 := hown6.eff hE8 (fun g hg e => hown6.neT bb6 (by decide) (by rw [hg, show g = b from e]))
                          have hbr8 := hbr6.trans (hE8.below hbr6.size (fun q hq => by rw [show q = b from hq]; exact HN.out.2.2))
                          go_wp2_with fail
                          go_roundw
                          case rel => exact ⟨k + 1, pv5, by omega, by omega, by go_num, by rw [HK2.out]; exact hown8, by rw [HRX.out]; exact hO8, by rw [HW2.out]; exact bb8, hbr8⟩
                          case measure => simp [intOf]; omega
                      · have e3 : ((k : Int) == LA) = false := by simpa using hla
                        have HW2 : Hid (wantF (wsF m l) kp LA torn L (k + 1) = splice W0 o s.data.toList) := hide (by rw [HWF.out, if_pos rfl, if_neg (fun h => hla h.1)])
                        clear hla
                        go_wp2_with (at_builtin; refine app_intsE rfl _ _ rfl w.heap.size (.slice (some ⟨w5.heap.size, 0, none⟩) 1 1) [(k : Int)] rfl (HLI.out _ rfl) _ R rfl ?_ HMA.out (Nat.le_trans HBS.out (by simp)) ?_; exact HON.out.ints.below (bal w5 _); intro v' w6 hown6 hE6 hob6; have hb6 : Below w5.heap.size w5 w6 := (bal w5 _).trans (hE6.below (by simp) (fun q hq => by have : q = w5.heap.size := Option.some.inj hq; omega)); have b0 := keep hb6 HB0.out; have b1 := keep hb6 HB1.out)
                        have bb6 := bb5.later hb6
                        have hO6 := hO5.later hb6
                        have hbr6 := below2 HBM.out hb6
                        have hput := put_any b o (s) W0 m w6 bb6 (by rw [HWL.out]; exact (HFIT).out) (by rw [HWL.out]; omega)
                        rw [HWL.out] at hput
                        have HPU := hide hput
                        clear hput
                        go_wp2_with fail
                        refine HPU.out.mono ?_
                        rintro e w8 ⟨rfl, bb8, hE8⟩
                        have hO8 := hO6.eff hE8 (fun q hq e => off_set hO6.hA bb6 HN.out.1 HN.out.2.1 (by rw [← show q = b from e]; exact hq))
                        have hown8 := hown6.eff hE8 (fun g hg e => hown6.neT bb6 (by decide) (by rw [hg, show g = b from e]))
                        have hbr8 := hbr6.trans (hE8.below hbr6.size (fun q hq => by rw [show q = b from hq]; exact HN.out.2.2))
                        go_wp2_with fail
                        go_roundw
                        case rel => exact ⟨k + 1, pv5, by omega, by omega, by go_num, by rw [HK2.out]; exact hown8, by rw [HRX.out]; exact hO8, by rw [HW2.out]; exact bb8, hbr8⟩
                        case measure => simp [intOf]; omega
                  · have hv := bool_out hkp
                    rw [hv] at HWF HKS
                    clear hv
                    have HW2 : Hid (wantF (wsF m l) kp LA torn L (k + 1) = W0) := hide HWF.out
                    have HK2 : Hid (keptL kp (k + 1) = keptL kp k) := hide (by rw [HKS.out]; simp)
                    go_wp2_with fail
                    go_roundw
                    case rel => exact ⟨k + 1, pv5, by omega, by omega, by go_num, by rw [HK2.out]; exact hown5, by rw [HRX.out]; exact hO5, by rw [HW2.out]; exact bb5, hbr5⟩
                    case measure => simp [intOf]; omega
                · have HE : N = k := by have := HNd.out; omega
                  have hkc4 : decide (k < 20) = false := decide_eq_false h60
                  have hkc5 : decide ((k : Int) < 20) = false := decide_eq_false (by omega)
                  subst HE
                  obtain ⟨hp1, hp2⟩ := runX_pend m ⟨false, 0, L, L, []⟩ l rfl N
                  have hcf := HCW.out _ hp1 hp2
                  rw [runX_dur] at hcf
                  have hdc : crashD (runX m ⟨false, 0, L, L, []⟩ l N) (toI (keptL kp N)).reverse torn = ⟨false, 0, wantF (wsF m l) kp LA torn L N, wantF (wsF m l) kp LA torn L N, []⟩ := by unfold crashD; rw [hcf]
                  have hcr := crash_do (K := (toI (keptL kp N)).reverse) (torn := torn) hO hbr.size (by omega) (by omega) hown.ints (by have := keptL_len kp N; simp [toI]; omega) h2
                  rw [hdc] at hcr
                  have HCR := hide hcr
                  have hWl := wantF_len m l kp LA torn L hL N
                  generalize wantF (wsF m l) kp LA torn L N = WW at *
                  clear hcf hdc hcr hp1 hp2
                  have hoffB := off_set hO.hA bb HN.out.1 HN.out.2.1
                  go_wp2_with fail
                  refine HCR.out.mono ?_
                  rintro e w3 ⟨rfl, pv3, hO3, hE3, hob3⟩
                  have bb3 := bb.eff hE3 hoffB
                  have hbr3 := hbr.trans (hE3.below hbr.size hO.low)
                  have hrd : Calls Try.prog 14 #[.pointer (some ⟨D, 0, none⟩), .int .i64 0, .int .i64 m] w3 (StrQ ⟨WW.toArray⟩ 0 w3) := read_all (d := ⟨false, 0, WW, WW, []⟩) hO3 (by omega)
                  have HR3 := hide hrd
                  have hconv := blk_str bb3 hWl
                  clear hrd
                  go_wp2_with fail
                  refine HR3.out.mono ?_
                  rintro e w5 ⟨rfl, hw5⟩
                  obtain rfl := hw5
                  go_wp2_with fail
                  go_ret
                  exact ⟨rfl, hbr3⟩
              · have HE : N = k := by have := HNd.out; omega
                have hkc4 : decide (k < l.length) = false := decide_eq_false hlt
                have hkc5 : decide ((k : Int) < (l.length : Int)) = false := decide_eq_false (by omega)
                subst HE
                obtain ⟨hp1, hp2⟩ := runX_pend m ⟨false, 0, L, L, []⟩ l rfl N
                have hcf := HCW.out _ hp1 hp2
                rw [runX_dur] at hcf
                have hdc : crashD (runX m ⟨false, 0, L, L, []⟩ l N) (toI (keptL kp N)).reverse torn = ⟨false, 0, wantF (wsF m l) kp LA torn L N, wantF (wsF m l) kp LA torn L N, []⟩ := by unfold crashD; rw [hcf]
                have hcr := crash_do (K := (toI (keptL kp N)).reverse) (torn := torn) hO hbr.size (by omega) (by omega) hown.ints (by have := keptL_len kp N; simp [toI]; omega) h2
                rw [hdc] at hcr
                have HCR := hide hcr
                have hWl := wantF_len m l kp LA torn L hL N
                generalize wantF (wsF m l) kp LA torn L N = WW at *
                clear hcf hdc hcr hp1 hp2
                have hoffB := off_set hO.hA bb HN.out.1 HN.out.2.1
                go_wp2_with fail
                refine HCR.out.mono ?_
                rintro e w3 ⟨rfl, pv3, hO3, hE3, hob3⟩
                have bb3 := bb.eff hE3 hoffB
                have hbr3 := hbr.trans (hE3.below hbr.size hO.low)
                have hrd : Calls Try.prog 14 #[.pointer (some ⟨D, 0, none⟩), .int .i64 0, .int .i64 m] w3 (StrQ ⟨WW.toArray⟩ 0 w3) := read_all (d := ⟨false, 0, WW, WW, []⟩) hO3 (by omega)
                have HR3 := hide hrd
                have hconv := blk_str bb3 hWl
                clear hrd
                go_wp2_with fail
                refine HR3.out.mono ?_
                rintro e w5 ⟨rfl, hw5⟩
                obtain rfl := hw5
                go_wp2_with fail
                go_ret
                exact ⟨rfl, hbr3⟩
        · obtain rfl : k = l.length := by omega
          have HE : Hid (N = l.length) := hide (by rw [HNd.out]; omega)
          have hla : lastF kp l.length = lastF kp N := by rw [HE.out]
          rw [hla]
          have hla1 := lastF_ge kp N
          have hla2 := lastF_lt kp N
          have hN20 : N ≤ 20 := by have := HNd.out; omega
          have HCW := hide (fun d hd1 hd2 => crash_want (wsF m l) kp torn N d hd1 hd2)
          have HSP := hide (lastF_spec kp N)
          generalize lastF kp N = LA at *
          clear hla HE
          go_wp2_with fail
          go_loopw [16, 17] (fun al i wr => ∃ (k : Nat) (pv : Value), k ≤ l.length ∧ k ≤ 20 ∧ i = .int .i64 k ∧ OwnI wr w.heap.size al (toI (keptL kp k)).reverse ∧ OnDisk m w.heap.size wr D U V pv (runX m ⟨false, 0, L, L, []⟩ l k) ∧ Blk wr b (bytesV (wantF (wsF m l) kp LA torn L k)) 5 ∧ Below w.heap.size w wr) (fun _ i _ => l.length - (intOf i).toNat)
          case atStart => exact ⟨0, _, by omega, by omega, rfl, OwnI.nil _ _, hO4, bb4, hbr4⟩
          case round =>
            obtain ⟨k, pv, hk, hk60, rfl, hown, hO, bb, hbr⟩ := hrel
            by_cases hlt : k < l.length
            · by_cases h60 : k < 20
              · obtain ⟨i1, i2, bl, ol, rfl, cl0, cl1, cl2⟩ := HLW.out k hlt
                have c0 := keep hbr cl0
                have c1 := keep hbr cl1
                have c2 := keep hbr cl2
                have HFIT := hide (fit_in m (l.getD k wp0))
                have hfits := fits_any (l.getD k wp0) m wr i1 i2 (by omega)
                have HRX : Hid (runX m ⟨false, 0, L, L, []⟩ l (k + 1) = putD (runX m ⟨false, 0, L, L, []⟩ l k) (offN m (l.getD k wp0)) (strN m (l.getD k wp0)).data.toList) := hide rfl
                have HWF : Hid (wantF (wsF m l) kp LA torn L (k + 1) = if kp.getD k false then splice (wantF (wsF m l) kp LA torn L k) (offN m (l.getD k wp0)) (if (k : Int) = LA ∧ 0 ≤ torn then tornT torn (strN m (l.getD k wp0)).data.toList else (strN m (l.getD k wp0)).data.toList) else wantF (wsF m l) kp LA torn L k) := hide rfl
                have HWL := hide (wantF_len m l kp LA torn L hL k)
                have HKS := hide (keptL_succ kp k)
                have HKL := hide (keptL_len kp k)
                have HPL := hide ((runX_pend m ⟨false, 0, L, L, []⟩ l rfl k).1)
                generalize offN m (l.getD k wp0) = o at *
                generalize strN m (l.getD k wp0) = s at *
                generalize l.getD k wp0 = p at *
                generalize runX m ⟨false, 0, L, L, []⟩ l k = d at *
                generalize wantF (wsF m l) kp LA torn L k = W0 at *
                obtain ⟨po, ps, py⟩ := p
                clear i1 i2 cl0 cl1 cl2
                have HF := hide hfits
                clear hfits
                go_wp2_with fail
                refine HF.out.mono ?_
                rintro e w3 ⟨rfl, hb3⟩
                have hO3 := hO.later hb3
                have hbr3 := below2 hbr hb3
                have bb3 := bb.later hb3
                have hown3 := hown.later hb3
                clear hO hbr bb hown HF c0 c1 c2 hb3
                go_wp2_with fail
                generalize hX4 : World.alloc w3 _ = w4
                have hb4 : Below w3.heap.size w3 w4 := by rw [← hX4]; exact bal w3 _
                have bW : Blk w4 w3.heap.size [.int .i64 o, .string s, .bool py] 53 := by rw [← hX4]; exact Blk.newA w3 _ rfl
                have hO4 := hO3.later hb4
                have hbr4 := below2 hbr3 hb4
                have bb4 := bb3.later hb4
                have hown4 := hown3.later hb4
                clear hX4 hb4 hO3 hbr3 bb3 hown3
                have HWR := hide (write_on o s hO4 hbr4.size (by omega) HFIT.out (by have := HPL.out; omega))
                have hoffW := off_typ hO4.hA bW (by decide) (by decide) (by decide)
                have hoffB := off_set hO4.hA bb4 HN.out.1 HN.out.2.1
                have hoffO := own_off hO4.hA hown4
                have b0 := bW.cell 0 rfl
                have b1 := bW.cell 1 rfl
                go_wp2_with fail
                refine HWR.out.mono ?_
                rintro e w5 ⟨rfl, pv5, hO5, hE5, hob5⟩
                have bW5 := bW.eff hE5 hoffW
                have bb5 := bb4.eff hE5 hoffB
                have hown5 := hown4.eff hE5 (fun g hg h => hoffO g h hg.symm)
                have hbr5 := hbr4.trans (hE5.below hbr4.size hO4.low)
                clear b0 b1 HWR hoffW hoffB hoffO hO4 bW bb4 hown4 hbr4 hE5 hob5
                by_cases hkp : k < kp.length
                · obtain ⟨bk, ok, rfl, ck⟩ := HKW.out k hkp
                  have ck' := keep hbr5 ck
                  clear ck
                  generalize hv : kp.getD k false = v at ck' HWF HKS
                  clear hv
                  cases v
                  · skip
                    have HW2 : Hid (wantF (wsF m l) kp LA torn L (k + 1) = W0) := hide HWF.out
                    have HK2 : Hid (keptL kp (k + 1) = keptL kp k) := hide (by rw [HKS.out]; simp)
                    go_wp2_with fail
                    go_roundw
                    case rel => exact ⟨k + 1, pv5, by omega, by omega, by go_num, by rw [HK2.out]; exact hown5, by rw [HRX.out]; exact hO5, by rw [HW2.out]; exact bb5, hbr5⟩
                    case measure => simp [intOf]; omega
                  · have b0 := bW5.cell 0 rfl
                    have b1 := bW5.cell 1 rfl
                    have HB0 := hide b0
                    have HB1 := hide b1
                    have HK2 : Hid ((toI (keptL kp (k + 1))).reverse = [(k : Int)] ++ (toI (keptL kp k)).reverse) := hide (by rw [HKS.out]; simp [toI])
                    have hRl : (toI (keptL kp k)).reverse.length ≤ k := by have := HKL.out; simp [toI]; exact this
                    generalize (toI (keptL kp k)).reverse = R at *
                    have HON := hide hown5
                    have hownlen : R.length < 1000000 := by omega
                    have hlit : ∀ X, X = w5.alloc (.cells #[.int .i64 (k : Int)] 3) → OwnI X w.heap.size (.slice (some ⟨w5.heap.size, 0, none⟩) 1 1) [(k : Int)] := fun X e => by rw [e]; exact own_lit1 w5 k hbr5.size
                    have HLI := hide hlit
                    have HBS := hide hbr5.size
                    have HBM := hide hbr5
                    have HMA : Hid (1 + R.length < 1000000) := hide (by omega)
                    have hsz5 : (s.size : Int) ≤ 9223372036854775807 := by have := HFIT.out; omega
                    have HLA := hide (And.intro hla1 hla2)
                    clear hownlen hlit hla1 hla2
                    obtain ⟨na, nc, hnv⟩ := hown5.form
                    subst hnv
                    by_cases hla : (k : Int) = LA
                    · by_cases ht : 0 ≤ torn
                      · obtain ⟨tn, rfl⟩ : ∃ tn : Nat, torn = tn := ⟨torn.toNat, by omega⟩
                        have HCT := hide (fun W => cut_any s tn W hsz5 (by have := h2.2; omega))
                        have e2 : decide ((0 : Int) ≤ (tn : Int)) = true := by simp
                        have e3 : ((k : Int) == LA) = true := by simpa using hla
                        have HW2 : Hid (wantF (wsF m l) kp LA tn L (k + 1) = splice W0 o (cutS s tn).data.toList) := hide (by rw [HWF.out, if_pos rfl, if_pos ⟨hla, ht⟩, cutS_data]; unfold tornT; simp)
                        have HFT : Hid (o + (cutS s tn).size ≤ m) := hide (by have := HFIT.out; rw [cutS_size]; omega)
                        clear hla ht
                        go_wp2_with (at_builtin; refine app_intsE rfl _ _ rfl w.heap.size (.slice (some ⟨w5.heap.size, 0, none⟩) 1 1) [(k : Int)] rfl (HLI.out _ rfl) _ R rfl ?_ HMA.out (Nat.le_trans HBS.out (by simp)) ?_; exact HON.out.ints.below (bal w5 _); intro v' w6 hown6 hE6 hob6; have hb6 : Below w5.heap.size w5 w6 := (bal w5 _).trans (hE6.below (by simp) (fun q hq => by have : q = w5.heap.size := Option.some.inj hq; omega)); have b0 := keep hb6 HB0.out; have b1 := keep hb6 HB1.out)
                        refine (HCT.out w6).mono ?_
                        rintro e w7 ⟨rfl, hw7⟩
                        obtain rfl := hw7
                        have bb6 := bb5.later hb6
                        have hO6 := hO5.later hb6
                        have hbr6 := below2 HBM.out hb6
                        have hput := put_any b o (cutS s tn) W0 m w6 bb6 (by rw [HWL.out]; exact (HFT).out) (by rw [HWL.out]; omega)
                        rw [HWL.out] at hput
                        have HPU := hide hput
                        clear hput
                        go_wp2_with fail
                        refine HPU.out.mono ?_
                        rintro e w8 ⟨rfl, bb8, hE8⟩
                        have hO8 := hO6.eff hE8 (fun q hq e => off_set hO6.hA bb6 HN.out.1 HN.out.2.1 (by rw [← show q = b from e]; exact hq))
                        have hown8 := hown6.eff hE8 (fun g hg e => hown6.neT bb6 (by decide) (by rw [hg, show g = b from e]))
                        have hbr8 := hbr6.trans (hE8.below hbr6.size (fun q hq => by rw [show q = b from hq]; exact HN.out.2.2))
                        go_wp2_with fail
                        go_roundw
                        case rel => exact ⟨k + 1, pv5, by omega, by omega, by go_num, by rw [HK2.out]; exact hown8, by rw [HRX.out]; exact hO8, by rw [HW2.out]; exact bb8, hbr8⟩
                        case measure => simp [intOf]; omega
                      · have e2 : decide (0 ≤ torn) = false := decide_eq_false ht
                        have e3 : ((k : Int) == LA) = true := by simpa using hla
                        have HW2 : Hid (wantF (wsF m l) kp LA torn L (k + 1) = splice W0 o s.data.toList) := hide (by rw [HWF.out, if_pos rfl, if_neg (fun h => ht h.2)])
                        clear hla ht
                        go_wp2_with (at_builtin; refine app_intsE rfl _ _ rfl w.heap.size (.slice (some ⟨w5.heap.size, 0, none⟩) 1 1) [(k : Int)] rfl (HLI.out _ rfl) _ R rfl ?_ HMA.out (Nat.le_trans HBS.out (by simp)) ?_; exact HON.out.ints.below (bal w5 _); intro v' w6 hown6 hE6 hob6; have hb6 : Below w5.heap.size w5 w6 := (bal w5 _).trans (hE6.below (by simp) (fun q hq => by have : q = w5.heap.size := Option.some.inj hq; omega)); have b0 := keep hb6 HB0.out; have b1 := keep hb6 HB1.out)
                        have bb6 := bb5.later hb6
                        have hO6 := hO5.later hb6
                        have hbr6 := below2 HBM.out hb6
                        have hput := put_any b o (s) W0 m w6 bb6 (by rw [HWL.out]; exact (HFIT).out) (by rw [HWL.out]; omega)
                        rw [HWL.out] at hput
                        have HPU := hide hput
                        clear hput
                        go_wp2_with fail
                        refine HPU.out.mono ?_
                        rintro e w8 ⟨rfl, bb8, hE8⟩
                        have hO8 := hO6.eff hE8 (fun q hq e => off_set hO6.hA bb6 HN.out.1 HN.out.2.1 (by rw [← show q = b from e]; exact hq))
                        have hown8 := hown6.eff hE8 (fun g hg e => hown6.neT bb6 (by decide) (by rw [hg, show g = b from e]))
                        have hbr8 := hbr6.trans (hE8.below hbr6.size (fun q hq => by rw [show q = b from hq]; exact HN.out.2.2))
                        go_wp2_with fail
                        go_roundw
                        case rel => exact ⟨k + 1, pv5, by omega, by omega, by go_num, by rw [HK2.out]; exact hown8, by rw [HRX.out]; exact hO8, by rw [HW2.out]; exact bb8, hbr8⟩
                        case measure => simp [intOf]; omega
                    · have e3 : ((k : Int) == LA) = false := by simpa using hla
                      have HW2 : Hid (wantF (wsF m l) kp LA torn L (k + 1) = splice W0 o s.data.toList) := hide (by rw [HWF.out, if_pos rfl, if_neg (fun h => hla h.1)])
                      clear hla
                      go_wp2_with (at_builtin; refine app_intsE rfl _ _ rfl w.heap.size (.slice (some ⟨w5.heap.size, 0, none⟩) 1 1) [(k : Int)] rfl (HLI.out _ rfl) _ R rfl ?_ HMA.out (Nat.le_trans HBS.out (by simp)) ?_; exact HON.out.ints.below (bal w5 _); intro v' w6 hown6 hE6 hob6; have hb6 : Below w5.heap.size w5 w6 := (bal w5 _).trans (hE6.below (by simp) (fun q hq => by have : q = w5.heap.size := Option.some.inj hq; omega)); have b0 := keep hb6 HB0.out; have b1 := keep hb6 HB1.out)
                      have bb6 := bb5.later hb6
                      have hO6 := hO5.later hb6
                      have hbr6 := below2 HBM.out hb6
                      have hput := put_any b o (s) W0 m w6 bb6 (by rw [HWL.out]; exact (HFIT).out) (by rw [HWL.out]; omega)
                      rw [HWL.out] at hput
                      have HPU := hide hput
                      clear hput
                      go_wp2_with fail
                      refine HPU.out.mono ?_
                      rintro e w8 ⟨rfl, bb8, hE8⟩
                      have hO8 := hO6.eff hE8 (fun q hq e => off_set hO6.hA bb6 HN.out.1 HN.out.2.1 (by rw [← show q = b from e]; exact hq))
                      have hown8 := hown6.eff hE8 (fun g hg e => hown6.neT bb6 (by decide) (by rw [hg, show g = b from e]))
                      have hbr8 := hbr6.trans (hE8.below hbr6.size (fun q hq => by rw [show q = b from hq]; exact HN.out.2.2))
                      go_wp2_with fail
                      go_roundw
                      case rel => exact ⟨k + 1, pv5, by omega, by omega, by go_num, by rw [HK2.out]; exact hown8, by rw [HRX.out]; exact hO8, by rw [HW2.out]; exact bb8, hbr8⟩
                      case measure => simp [intOf]; omega
                · have hv := bool_out hkp
                  rw [hv] at HWF HKS
                  clear hv
                  have HW2 : Hid (wantF (wsF m l) kp LA torn L (k + 1) = W0) := hide HWF.out
                  have HK2 : Hid (keptL kp (k + 1) = keptL kp k) := hide (by rw [HKS.out]; simp)
                  go_wp2_with fail
                  go_roundw
                  case rel => exact ⟨k + 1, pv5, by omega, by omega, by go_num, by rw [HK2.out]; exact hown5, by rw [HRX.out]; exact hO5, by rw [HW2.out]; exact bb5, hbr5⟩
                  case measure => simp [intOf]; omega
              · have HE : N = k := by have := HNd.out; omega
                have hkc4 : decide (k < 20) = false := decide_eq_false h60
                have hkc5 : decide ((k : Int) < 20) = false := decide_eq_false (by omega)
                subst HE
                obtain ⟨hp1, hp2⟩ := runX_pend m ⟨false, 0, L, L, []⟩ l rfl N
                have hcf := HCW.out _ hp1 hp2
                rw [runX_dur] at hcf
                have hdc : crashD (runX m ⟨false, 0, L, L, []⟩ l N) (toI (keptL kp N)).reverse torn = ⟨false, 0, wantF (wsF m l) kp LA torn L N, wantF (wsF m l) kp LA torn L N, []⟩ := by unfold crashD; rw [hcf]
                have hcr := crash_do (K := (toI (keptL kp N)).reverse) (torn := torn) hO hbr.size (by omega) (by omega) hown.ints (by have := keptL_len kp N; simp [toI]; omega) h2
                rw [hdc] at hcr
                have HCR := hide hcr
                have hWl := wantF_len m l kp LA torn L hL N
                generalize wantF (wsF m l) kp LA torn L N = WW at *
                clear hcf hdc hcr hp1 hp2
                have hoffB := off_set hO.hA bb HN.out.1 HN.out.2.1
                go_wp2_with fail
                refine HCR.out.mono ?_
                rintro e w3 ⟨rfl, pv3, hO3, hE3, hob3⟩
                have bb3 := bb.eff hE3 hoffB
                have hbr3 := hbr.trans (hE3.below hbr.size hO.low)
                have hrd : Calls Try.prog 14 #[.pointer (some ⟨D, 0, none⟩), .int .i64 0, .int .i64 m] w3 (StrQ ⟨WW.toArray⟩ 0 w3) := read_all (d := ⟨false, 0, WW, WW, []⟩) hO3 (by omega)
                have HR3 := hide hrd
                have hconv := blk_str bb3 hWl
                clear hrd
                go_wp2_with fail
                refine HR3.out.mono ?_
                rintro e w5 ⟨rfl, hw5⟩
                obtain rfl := hw5
                go_wp2_with fail
                go_ret
                exact ⟨rfl, hbr3⟩
            · have HE : N = k := by have := HNd.out; omega
              have hkc4 : decide (k < l.length) = false := decide_eq_false hlt
              have hkc5 : decide ((k : Int) < (l.length : Int)) = false := decide_eq_false (by omega)
              subst HE
              obtain ⟨hp1, hp2⟩ := runX_pend m ⟨false, 0, L, L, []⟩ l rfl N
              have hcf := HCW.out _ hp1 hp2
              rw [runX_dur] at hcf
              have hdc : crashD (runX m ⟨false, 0, L, L, []⟩ l N) (toI (keptL kp N)).reverse torn = ⟨false, 0, wantF (wsF m l) kp LA torn L N, wantF (wsF m l) kp LA torn L N, []⟩ := by unfold crashD; rw [hcf]
              have hcr := crash_do (K := (toI (keptL kp N)).reverse) (torn := torn) hO hbr.size (by omega) (by omega) hown.ints (by have := keptL_len kp N; simp [toI]; omega) h2
              rw [hdc] at hcr
              have HCR := hide hcr
              have hWl := wantF_len m l kp LA torn L hL N
              generalize wantF (wsF m l) kp LA torn L N = WW at *
              clear hcf hdc hcr hp1 hp2
              have hoffB := off_set hO.hA bb HN.out.1 HN.out.2.1
              go_wp2_with fail
              refine HCR.out.mono ?_
              rintro e w3 ⟨rfl, pv3, hO3, hE3, hob3⟩
              have bb3 := bb.eff hE3 hoffB
              have hbr3 := hbr.trans (hE3.below hbr.size hO.low)
              have hrd : Calls Try.prog 14 #[.pointer (some ⟨D, 0, none⟩), .int .i64 0, .int .i64 m] w3 (StrQ ⟨WW.toArray⟩ 0 w3) := read_all (d := ⟨false, 0, WW, WW, []⟩) hO3 (by omega)
              have HR3 := hide hrd
              have hconv := blk_str bb3 hWl
              clear hrd
              go_wp2_with fail
              refine HR3.out.mono ?_
              rintro e w5 ⟨rfl, hw5⟩
              obtain rfl := hw5
              go_wp2_with fail
              go_ret
              exact ⟨rfl, hbr3⟩
end Go.Proofs.Ytednelejpkchbaa
