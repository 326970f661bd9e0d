/- The program's GraphText by its contract. No conditions. -/
import Derived.Test.YtmghnfadgnolpaaDoorMath12
import Derived.Test.YtmghnfadgnolpaaDoorGv
import Derived.Test.YtmghnfadgnolpaaDoorSb
import Derived.Test.YtmghnfadgnolpaaDoorShelf
namespace Go.Proofs.YtmghnfadgnolpaaDoor
open Go.RowKit
/-- the builder, laid behind w1, that holds t -/
def Gt (w1 wr : World) (t : List UInt8) : Prop := Sb w1.heap.size w1.heap.size (Lib.byteCells t) wr ∧ Below w1.heap.size w1 wr
theorem Gt.str {w1 wr w2 : World} {t l : List UInt8} (h : Gt w1 wr t) (hs : Sb w1.heap.size w1.heap.size (Lib.byteCells t ++ Lib.strCells ⟨l.toArray⟩) w2) (hb : Below w1.heap.size wr w2) : Gt w1 w2 (t ++ l) := by
  rw [Lib.strCells_toArray, ← Lib.byteCells_append] at hs
  exact ⟨hs, h.2.trans hb⟩
theorem Gt.byte {w1 wr w2 : World} {t : List UInt8} {c : UInt8} {x : Int} (h : Gt w1 wr t) (hx : x = (c.toNat : Int)) (hs : Sb w1.heap.size w1.heap.size (Lib.byteCells t ++ [.int .u8 x]) w2) (hb : Below w1.heap.size wr w2) : Gt w1 w2 (t ++ [c]) := by
  subst hx
  refine ⟨?_, h.2.trans hb⟩
  rw [Lib.byteCells_append]; exact hs
theorem Gt.use {w w1 wr : World} {t : List UInt8} {ad : Addr} {G : List Nat} {v : Value} (h : Gt w1 wr t) (hc : w1.cell? ⟨w.heap.size, 0, none⟩ = some v) (hz : w.heap.size < w1.heap.size) (hr : RdG w1 w1.heap.size ad G) (_hb : Below w.heap.size w w1) :
    wr.cell? ⟨w.heap.size, 0, none⟩ = some v ∧ RdG wr wr.heap.size ad G ∧ Sb w1.heap.size w1.heap.size (Lib.byteCells t) wr ∧ w1.heap.size ≤ wr.heap.size :=
  ⟨(h.2.cell (p := ⟨w.heap.size, 0, none⟩) hz).trans hc, hr.at_ h.2, h.1, h.2.size⟩
theorem sizeL (l : List UInt8) : (⟨l.toArray⟩ : ByteArray).size = l.length := by simp [ByteArray.size]
theorem wStr {w1 wr : World} {t : List UInt8} (l : List UInt8) (h : Gt w1 wr t) (hl : t.length + l.length ≤ 1000) :
    Calls Tryd.prog 16 #[.pointer (some ⟨w1.heap.size, 0, none⟩), .string ⟨l.toArray⟩] wr fun e w' => (∃ x : Int, e = .returned (.tuple #[.int .i64 x, .nilIface])) ∧ Gt w1 w' (t ++ l) :=
  (sbString _ _ _ ⟨l.toArray⟩ wr h.1 (by rw [Lib.byteCells_length, sizeL]; omega) h.2.size).mono fun _ _ q => ⟨⟨_, q.1⟩, h.str q.2.1 q.2.2⟩
theorem wByte {w1 wr : World} {t : List UInt8} (c : UInt8) (x : Int) (hx : x = (c.toNat : Int)) (h : Gt w1 wr t) (hl : t.length + 1 ≤ 1000) :
    Calls Tryd.prog 18 #[.pointer (some ⟨w1.heap.size, 0, none⟩), .int .u8 x] wr fun e w' => e = .returned .nilIface ∧ Gt w1 w' (t ++ [c]) :=
  (sbByte _ _ _ x wr h.1 (by rw [Lib.byteCells_length]; omega) h.2.size).mono fun _ _ q => ⟨q.1, h.byte hx q.2.1 q.2.2⟩
theorem itoaDg (d : Nat) (h : d < 10) (w : World) : Calls Tryd.prog 17 #[.int .i64 d] w fun e w' => e = .returned (.string ⟨(Sw.dig d).toArray⟩) ∧ w' = w := by
  have := Tryd.strconv_Itoa_small d (by omega) w
  rw [Sw.dig_dec h] at this; exact this
set_option maxRecDepth 100000 in
set_option maxHeartbeats 4000000 in
theorem implGraphText_yes (G : List Nat) (hG : Sw.GVN G) (ad : Addr) (c : Nat) (w : World) (hr : RdG w w.heap.size ad G) :
    Calls Tryd.prog 6 #[.agg #[.slice (some ad) G.length c]] w fun e w' => e = .returned (.string ⟨(Sw.gText G).toArray⟩) ∧ Below w.heap.size w w' := by
  have hn9 := hG.le
  have hit := fun d h w => itoaDg d h w
  go_enter Tryd.func6, Tryd.ntmps6
  go_wp2_with fail
  refine (implGV G hG ad c _ (hr.at_ (below1 _))).mono ?_
  rintro e w1 ⟨rfl, hb⟩
  obtain ⟨hb1, hc1, hz1⟩ := box_after hb
  have hr1 := hr.at_ hb1
  have hN := fun w => itoaDg G.length (by omega) w
  have hS0 := Lib.fresh_isBuilder 40 5 w1
  have HG : Hid (Gt w1 (w1.alloc (.cells #[.pointer none, .slice none 0 0] 40)) []) := ⟨hS0, below1 _⟩
  have HLN := Lib.hid (fun a => Sw.tOut_len hn9 a)
  clear hb hS0 hr
  obtain ⟨hcb, hrb, hSb, hzb⟩ := HG.out.use hc1 hz1 hr1 hb1
  go_wp2_with fail
  refine (hN _).mono ?_
  rintro e w' ⟨rfl, rfl⟩
  go_wp2_with fail
  refine (wStr (Sw.dig G.length) HG.out (by simp only [List.length_nil, Sw.dig_len]; omega)).mono ?_
  rintro e w2 ⟨⟨x2, rfl⟩, hg2⟩
  have HG := Lib.hid hg2
  clear hcb hrb hSb hzb hg2
  obtain ⟨hcb, hrb, hSb, hzb⟩ := HG.out.use hc1 hz1 hr1 hb1
  go_wp2_with fail
  refine (wByte 58 58 rfl HG.out (by simp only [List.length_append, List.length_nil, Sw.dig_len]; omega)).mono ?_
  rintro e w3 ⟨rfl, hg3⟩
  have HG := Lib.hid hg3
  clear hcb hrb hSb hzb hg3
  obtain ⟨hcb, hrb, hSb, hzb⟩ := HG.out.use hc1 hz1 hr1 hb1
  rw [List.nil_append] at HG hSb
  have HT : Hid (Sw.dig G.length ++ [58] = (Sw.tOut G 0).1) := rfl
  go_wp2_with fail
  go_loopw [4, 20] (fun f i wr => ∃ (k : Nat) (t : List UInt8) (b : Bool), k ≤ G.length ∧ i = .int .i64 k ∧ f = .bool b ∧ (t, b) = Sw.tOut G k ∧ Gt w1 wr t) (fun _ i _ => (G.length - intOf i).toNat)
  case atStart => exact ⟨0, _, true, Nat.zero_le _, rfl, rfl, rfl, HG.out⟩
  case round =>
    obtain ⟨k, t, b, hk, rfl, rfl, ht, hg⟩ := hrel
    have HG := Lib.hid hg
    have HT := Lib.hid ht
    clear hg ht hcb hrb hSb hzb
    obtain ⟨hcb, hrb, hSb, hzb⟩ := HG.out.use hc1 hz1 hr1 hb1
    by_cases hlt : k < G.length
    · have hd : decide ((k : Int) < (G.length : Int)) = true := by rw [decide_eq_true_eq]; omega
      have hk0 : (0 : Int) ≤ (k : Int) := by omega
      have hk1 : (k : Int) < (G.length : Int) := by omega
      have hck := hrb.2 k hlt
      have hx9 := lt40 hn9 (hG.lt k)
      have hlen : t.length ≤ 2 + 36 * k := by have q := HLN.out k; rw [← HT.out] at q; exact q
      have hKa := fun w => itoaDg k (by omega) w
      have hw1 : IntKind.i64.wrap ((k : Int) + 1) = (k : Int) + 1 := IntWalk.i64_in _ (by omega)
      go_wp2_with fail
      go_loopw [4, 7] (fun f i wr => ∃ (j : Nat) (q : Int) (t' : List UInt8) (b' : Bool), k + 1 + j ≤ G.length ∧ i = .int .i64 q ∧ q = (k : Int) + 1 + (j : Int) ∧ f = .bool b' ∧ (t', b') = Sw.tIn G k (t, b) j ∧ Gt w1 wr t') (fun _ i _ => (G.length - intOf i).toNat)
      case atStart => exact ⟨0, _, t, b, by omega, rfl, by omega, rfl, rfl, HG.out⟩
      case round =>
        obtain ⟨j, q, t', b', hj, rfl, hq, rfl, ht, hg⟩ := hrel
        have HG := Lib.hid hg
        have HI := Lib.hid ht
        clear hg ht hcb hrb hSb hzb hck
        obtain ⟨hcb, hrb, hSb, hzb⟩ := HG.out.use hc1 hz1 hr1 hb1
        obtain ⟨m, hm⟩ : ∃ m : Nat, m = k + 1 + j := ⟨_, rfl⟩
        have hqm : q = (m : Int) := by omega
        subst hqm
        have hlen' : t'.length ≤ t.length + 4 * j := by have q := Sw.tIn_len G k (t, b) j; rw [← HI.out] at q; exact q
        have hl400 : t'.length ≤ 400 := by omega
        have HM := Lib.hid hm
        clear hlen' hq
        by_cases hlj : m < G.length
        · have hdj : decide ((m : Int) < (G.length : Int)) = true := by rw [decide_eq_true_eq]; omega
          have hm0 : (0 : Int) ≤ (m : Int) := by omega
          have hMa := fun w => itoaDg m (by omega) w
          have hIS := Sw.tIn_succ G k (t, b) j
          rw [← hm, ← HI.out] at hIS
          have hshr := shr_bit (Sw.nb G k) m hx9
          have hj2 : k + 1 + (j + 1) ≤ G.length := by omega
          have hmq : ((m : Int) + 1) = (k : Int) + 1 + ((j + 1 : Nat) : Int) := by omega
          have HQ := Lib.hid hmq
          clear hm hmq
          rcases hshr with ⟨hbt, hbi⟩ | ⟨hbt, hbi⟩
          · cases b'
            · rw [Sw.tStep_more hbt] at hIS
              have HIS := Lib.hid hIS
              clear hIS hbt
              go_wp2_with fail
              refine (wByte 44 44 rfl HG.out (by omega)).mono ?_
              rintro e w31 ⟨rfl, hg31⟩
              have HG := Lib.hid hg31
              clear hcb hrb hSb hzb hg31
              obtain ⟨hcb, hrb, hSb, hzb⟩ := HG.out.use hc1 hz1 hr1 hb1
              go_wp2_with fail
              refine (hKa _).mono ?_
              rintro e w' ⟨rfl, rfl⟩
              go_wp2_with fail
              refine (wStr (Sw.dig k) HG.out (by simp only [List.length_append, List.length_cons, List.length_nil, Sw.dig_len]; omega)).mono ?_
              rintro e w32 ⟨⟨x32, rfl⟩, hg32⟩
              have HG := Lib.hid hg32
              clear hcb hrb hSb hzb hg32
              obtain ⟨hcb, hrb, hSb, hzb⟩ := HG.out.use hc1 hz1 hr1 hb1
              go_wp2_with fail
              refine (wByte 45 45 rfl HG.out (by simp only [List.length_append, List.length_cons, List.length_nil, Sw.dig_len]; omega)).mono ?_
              rintro e w33 ⟨rfl, hg33⟩
              have HG := Lib.hid hg33
              clear hcb hrb hSb hzb hg33
              obtain ⟨hcb, hrb, hSb, hzb⟩ := HG.out.use hc1 hz1 hr1 hb1
              go_wp2_with fail
              refine (hMa _).mono ?_
              rintro e w' ⟨rfl, rfl⟩
              go_wp2_with fail
              refine (wStr (Sw.dig m) HG.out (by simp only [List.length_append, List.length_cons, List.length_nil, Sw.dig_len]; omega)).mono ?_
              rintro e w34 ⟨⟨x34, rfl⟩, hg34⟩
              have HG := Lib.hid hg34
              clear hcb hrb hSb hzb hg34
              obtain ⟨hcb, hrb, hSb, hzb⟩ := HG.out.use hc1 hz1 hr1 hb1
              go_wp2_with fail
              go_roundw
              case rel => exact ⟨j + 1, _, _, false, hj2, by go_num, HQ.out, rfl, HIS.out.symm, HG.out⟩
              case measure => simp [intOf]; omega
            · rw [Sw.tStep_first hbt] at hIS
              have HIS := Lib.hid hIS
              clear hIS hbt
              go_wp2_with fail
              refine (hKa _).mono ?_
              rintro e w' ⟨rfl, rfl⟩
              go_wp2_with fail
              refine (wStr (Sw.dig k) HG.out (by simp only [Sw.dig_len]; omega)).mono ?_
              rintro e w42 ⟨⟨x42, rfl⟩, hg42⟩
              have HG := Lib.hid hg42
              clear hcb hrb hSb hzb hg42
              obtain ⟨hcb, hrb, hSb, hzb⟩ := HG.out.use hc1 hz1 hr1 hb1
              go_wp2_with fail
              refine (wByte 45 45 rfl HG.out (by simp only [List.length_append, Sw.dig_len]; omega)).mono ?_
              rintro e w43 ⟨rfl, hg43⟩
              have HG := Lib.hid hg43
              clear hcb hrb hSb hzb hg43
              obtain ⟨hcb, hrb, hSb, hzb⟩ := HG.out.use hc1 hz1 hr1 hb1
              go_wp2_with fail
              refine (hMa _).mono ?_
              rintro e w' ⟨rfl, rfl⟩
              go_wp2_with fail
              refine (wStr (Sw.dig m) HG.out (by simp only [List.length_append, List.length_cons, List.length_nil, Sw.dig_len]; omega)).mono ?_
              rintro e w44 ⟨⟨x44, rfl⟩, hg44⟩
              have HG := Lib.hid hg44
              clear hcb hrb hSb hzb hg44
              obtain ⟨hcb, hrb, hSb, hzb⟩ := HG.out.use hc1 hz1 hr1 hb1
              go_wp2_with fail
              go_roundw
              case rel => exact ⟨j + 1, _, _, false, hj2, by go_num, HQ.out, rfl, HIS.out.symm, HG.out⟩
              case measure => simp [intOf]; omega
          · rw [Sw.tStep_no hbt] at hIS
            have HIS := Lib.hid hIS
            clear hIS hbt
            go_wp2_with fail
            go_roundw
            case rel => exact ⟨j + 1, _, t', b', hj2, by go_num, HQ.out, rfl, HIS.out.symm, HG.out⟩
            case measure => simp [intOf]; omega
        · have hmn : m = G.length := by omega
          have hdj : decide ((m : Int) < (G.length : Int)) = false := by rw [decide_eq_false_iff_not]; omega
          have HE : Hid ((t', b') = Sw.tOut G (k + 1)) := by
            show _ = _
            rw [HI.out, Sw.tOut_succ, ← HT.out]
            congr 1; omega
          clear hm hmn
          go_wp2_with fail
          go_roundw
          case rel => exact ⟨k + 1, t', b', by omega, by go_num, rfl, HE.out, HG.out⟩
          case measure => simp [intOf]; omega
    · have hkn : k = G.length := by omega
      subst hkn
      have hd : decide ((G.length : Int) < (G.length : Int)) = false := by rw [decide_eq_false_iff_not]; omega
      have HE : Hid (t = Sw.gText G) := by show _ = _; unfold Sw.gText; rw [← HT.out]
      go_wp2_with fail
      refine (Tryd.Builder_String_any _ _ t _ hSb hzb).mono ?_
      rintro e w4 ⟨rfl, hb4⟩
      have HB := Lib.hid (hb1.trans ((HG.out.2.trans hb4).mono hb1.size))
      clear hb4
      go_wp2_with fail
      go_ret
      exact ⟨by rw [HE.out]; rfl, HB.out⟩
end Go.Proofs.YtmghnfadgnolpaaDoor

