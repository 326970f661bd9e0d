/- The reference's GraphText by its contract; both at whatever graph. No conditions. -/
import Derived.Test.YtmghnfadgnolpaaDoorGt
import Derived.Laws.Concat
import Derived.Laws.IdiomStrings
namespace Go.Proofs.YtmghnfadgnolpaaDoor
open Go.RowKit
theorem digNat (d : Nat) (h : d < 10) : ((UInt8.ofNat (48 + d)).toNat : Int) = 48 + (d : Int) := by
  rw [UInt8.toNat_ofNat']; omega
theorem l1Num (d : Nat) (h : d < 10) (w : World) :
    Calls Tryd.prog 21 #[.int .i64 d] w fun e w' => e = .returned (.string ⟨(Sw.dig d).toArray⟩) ∧ Below w.heap.size w w' := by
  have hw8 : IntKind.u8.wrap ((48 : Int) + (d : Int)) = 48 + (d : Int) := by rw [IntKind.wrap_u8]; omega
  have hcv : (convert 22 9 (.slice (some ⟨w.heap.size, 0, none⟩) 1 1)).run Tryd.prog (w.alloc (.cells #[.int .u8 (48 + (d : Int))] 5)) = .ok (.string ⟨(Sw.dig d).toArray⟩) (w.alloc (.cells #[.int .u8 (48 + (d : Int))] 5)) :=
    run_convert_bytes_back (P := Tryd.prog) (w.alloc (.cells #[.int .u8 (48 + (d : Int))] 5)) 22 9 5 ⟨w.heap.size, 0, none⟩ 1 (Sw.dig d) Tryd.underlying22 Tryd.underlying5 Tryd.underlying9 (fun j hj => by
      have : j = 0 := by rw [Sw.dig_len] at hj; omega
      subst this
      have e : ((Sw.dig d)[0].toNat : Int) = 48 + (d : Int) := digNat d h
      rw [e]
      simp [go_sem, Addr.add])
  have h0 : ¬ (d : Int) < 0 := by omega
  have h1 : (d : Int) < 10 := by omega
  go_enter Tryd.func21, Tryd.ntmps21
  go_wp2_with fail
  go_ret
  exact ⟨rfl, below1 _⟩
/-- the reference's state: what was there, the graph's box -/
def Gu (w wr : World) (ad : Addr) (c : Nat) (G : List Nat) : Prop := Below w.heap.size w wr ∧ wr.cell? ⟨w.heap.size, 0, none⟩ = some (.slice (some ad) G.length c) ∧ w.heap.size < wr.heap.size ∧ RdG wr wr.heap.size ad G
theorem Gu.next {w wr w2 : World} {ad : Addr} {c : Nat} {G : List Nat} (h : Gu w wr ad c G) (hb : Below wr.heap.size wr w2) : Gu w w2 ad c G := by
  obtain ⟨h1, h2, h3, h4⟩ := h
  obtain ⟨q1, q2, q3⟩ := box_next h1 h2 h3 hb
  exact ⟨q1, q2, q3, h4.at_ hb⟩
set_option maxRecDepth 100000 in
set_option maxHeartbeats 4000000 in
theorem specGraphText_yes (G : List Nat) (hG : Sw.GVN G) (ad : Addr) (c : Nat) (w : World) (hr : RdG w w.heap.size ad G) :
    Calls Tryd.prog 7 #[.agg #[.slice (some ad) G.length c]] w fun e w' => e = .returned (.string ⟨(Sw.gText G).toArray⟩) ∧ Below w.heap.size w w' := by
  have hn9 := hG.le
  go_enter Tryd.func7, Tryd.ntmps7
  go_wp2_with fail
  refine (specGV G hG ad c _ (hr.at_ (below1 _))).mono ?_
  rintro e w1 ⟨rfl, hb⟩
  obtain ⟨hb1, hc1, hz1⟩ := box_after hb
  have HU : Hid (Gu w w1 ad c G) := ⟨hb1, hc1, hz1, hr.at_ hb1⟩
  have hN := fun w => l1Num G.length (by omega) w
  have HLN := Lib.hid (fun a => Sw.tOut_len hn9 a)
  clear hb hb1 hc1 hz1 hr
  obtain ⟨_, hcb, hzb, hrb⟩ := HU.out
  go_wp2_with fail
  refine (hN _).mono ?_
  rintro e w2 ⟨rfl, hb2⟩
  have HU := Lib.hid (HU.out.next hb2)
  clear hcb hzb hrb hb2
  obtain ⟨_, hcb, hzb, hrb⟩ := HU.out
  have hl1 := Sw.dig_len G.length
  obtain ⟨D, hD⟩ : ∃ D, D = Sw.dig G.length := ⟨_, rfl⟩
  rw [← hD] at hl1 ⊢
  have HD := Lib.hid hD
  clear hD
  have ha0 : ∀ W, (Op.stringOp .add ⟨D.toArray⟩ ⟨#[58]⟩).run Tryd.prog W = .ok (.string ⟨(D ++ [58]).toArray⟩) W := fun W => run_string_add_lists W D [58] (by omega) (by decide)
  go_wp2_with fail
  have HT : Hid (((D ++ [58], true) : List UInt8 × Bool) = Sw.tOut G 0) := by show _ = _; rw [HD.out]; rfl
  go_loopw [3, 4, 5] (fun o f i wr => ∃ (k : Nat) (t : List UInt8) (b : Bool), k ≤ G.length ∧ i = .int .i64 k ∧ o = .string ⟨t.toArray⟩ ∧ f = .bool (!b) ∧ (t, b) = Sw.tOut G k ∧ Gu w wr ad c G) (fun _ _ i _ => (G.length - intOf i).toNat)
  case atStart => exact ⟨0, _, true, Nat.zero_le _, rfl, rfl, rfl, HT.out, HU.out⟩
  case round =>
    obtain ⟨k, t, b, hk, rfl, rfl, rfl, ht, hg⟩ := hrel
    have HU := Lib.hid hg
    have HT := Lib.hid ht
    clear hg ht hcb hrb hzb ha0
    obtain ⟨_, hcb, hzb, hrb⟩ := HU.out
    by_cases hlt : k < G.length
    · have hd : decide ((k : Int) < (G.length : Int)) = true := by rw [decide_eq_true_eq]; omega
      have hk0 : (0 : Int) ≤ (k : Int) := by omega
      have hk1 : (k : Int) < (G.length : Int) := by omega
      have hx9 := lt40 hn9 (hG.lt k)
      have hlen : t.length ≤ 2 + 36 * k := by have q := HLN.out k; rw [← HT.out] at q; exact q
      have hKa := fun w => l1Num k (by omega) w
      have hw1 : IntKind.i64.wrap ((k : Int) + 1) = (k : Int) + 1 := IntWalk.i64_in _ (by omega)
      go_wp2_with fail
      go_loopw [3, 4, 6] (fun o f i wr => ∃ (j : Nat) (q : Int) (t' : List UInt8) (b' : Bool), k + 1 + j ≤ G.length ∧ i = .int .i64 q ∧ q = (k : Int) + 1 + (j : Int) ∧ o = .string ⟨t'.toArray⟩ ∧ f = .bool (!b') ∧ (t', b') = Sw.tIn G k (t, b) j ∧ Gu w wr ad c G) (fun _ _ i _ => (G.length - intOf i).toNat)
      case atStart => exact ⟨0, _, t, b, by omega, rfl, by omega, rfl, rfl, rfl, HU.out⟩
      case round =>
        obtain ⟨j, q, t', b', hj, rfl, hq, rfl, rfl, ht, hg⟩ := hrel
        have HU := Lib.hid hg
        have HI := Lib.hid ht
        clear hg ht hcb hrb hzb
        obtain ⟨_, hcb, hzb, hrb⟩ := HU.out
        have hck := hrb.2 k hlt
        obtain ⟨m, hm⟩ : ∃ m : Nat, m = k + 1 + j := ⟨_, rfl⟩
        have hqm : q = (m : Int) := by omega
        subst hqm
        have hlen' : t'.length ≤ t.length + 4 * j := by have q := Sw.tIn_len G k (t, b) j; rw [← HI.out] at q; exact q
        have hl400 : t'.length ≤ 400 := by omega
        have HM := Lib.hid hm
        clear hlen' hq
        by_cases hlj : m < G.length
        · have hdj : decide ((m : Int) < (G.length : Int)) = true := by rw [decide_eq_true_eq]; omega
          have hm0 : (0 : Int) ≤ (m : Int) := by omega
          have hMa := fun w => l1Num m (by omega) w
          have hIS := Sw.tIn_succ G k (t, b) j
          rw [← hm, ← HI.out] at hIS
          have hbt2 := Sw.bit_eq (Sw.nb G k) m
          have hbit := fun w => l1Bit (Sw.nb G k) m hx9 (by omega) w
          have hj2 : k + 1 + (j + 1) ≤ G.length := by omega
          have hmq : ((m : Int) + 1) = (k : Int) + 1 + ((j + 1 : Nat) : Int) := by omega
          have HQ := Lib.hid hmq
          clear hm hmq
          cases hbt : (Sw.nb G k).testBit m
          · have hb0 : Sw.bit (Sw.nb G k) m = 0 := by rw [hbt2, hbt]; rfl
            rw [hb0] at hbit
            rw [Sw.tStep_no hbt] at hIS
            have HIS := Lib.hid hIS
            clear hIS hbt hbt2 hb0
            go_wp2_with fail
            refine (hbit _).mono ?_
            rintro e w' ⟨rfl, rfl⟩
            go_wp2_with fail
            go_roundw
            case rel => exact ⟨j + 1, _, t', b', hj2, by go_num, HQ.out, rfl, rfl, HIS.out.symm, HU.out⟩
            case measure => simp [intOf]; omega
          · have hb1 : Sw.bit (Sw.nb G k) m = 1 := by rw [hbt2, hbt]; rfl
            rw [hb1] at hbit
            cases b'
            · rw [Sw.tStep_more hbt] at hIS
              have HIS := Lib.hid hIS
              clear hIS hbt hbt2 hb1
              go_wp2_with fail
              refine (hbit _).mono ?_
              rintro e w' ⟨rfl, rfl⟩
              obtain ⟨L1, hL1⟩ : ∃ X, X = t' ++ [44] := ⟨_, rfl⟩
              have nL1 : L1.length = (t').length + 1 := by rw [hL1, List.length_append]; rfl
              have hc1 : ∀ W, (Op.stringOp .add ⟨(t').toArray⟩ ⟨([44]).toArray⟩).run Tryd.prog W = .ok (.string ⟨(L1).toArray⟩) W := fun W => by rw [hL1]; exact run_string_add_lists W (t') ([44]) (by omega) (by show ((1 : Nat) : Int) ≤ 8388608; decide)
              have HL1 := Lib.hid hL1
              clear hL1
              obtain ⟨L2, hL2⟩ : ∃ X, X = L1 ++ Sw.dig k := ⟨_, rfl⟩
              have nL2 : L2.length = (L1).length + 1 := by rw [hL2, List.length_append]; rfl
              have hc2 : ∀ W, (Op.stringOp .add ⟨(L1).toArray⟩ ⟨(Sw.dig k).toArray⟩).run Tryd.prog W = .ok (.string ⟨(L2).toArray⟩) W := fun W => by rw [hL2]; exact run_string_add_lists W (L1) (Sw.dig k) (by omega) (by show ((1 : Nat) : Int) ≤ 8388608; decide)
              have HL2 := Lib.hid hL2
              clear hL2
              obtain ⟨L3, hL3⟩ : ∃ X, X = L2 ++ [45] := ⟨_, rfl⟩
              have nL3 : L3.length = (L2).length + 1 := by rw [hL3, List.length_append]; rfl
              have hc3 : ∀ W, (Op.stringOp .add ⟨(L2).toArray⟩ ⟨([45]).toArray⟩).run Tryd.prog W = .ok (.string ⟨(L3).toArray⟩) W := fun W => by rw [hL3]; exact run_string_add_lists W (L2) ([45]) (by omega) (by show ((1 : Nat) : Int) ≤ 8388608; decide)
              have HL3 := Lib.hid hL3
              clear hL3
              obtain ⟨L4, hL4⟩ : ∃ X, X = L3 ++ Sw.dig m := ⟨_, rfl⟩
              have nL4 : L4.length = (L3).length + 1 := by rw [hL4, List.length_append]; rfl
              have hc4 : ∀ W, (Op.stringOp .add ⟨(L3).toArray⟩ ⟨(Sw.dig m).toArray⟩).run Tryd.prog W = .ok (.string ⟨(L4).toArray⟩) W := fun W => by rw [hL4]; exact run_string_add_lists W (L3) (Sw.dig m) (by omega) (by show ((1 : Nat) : Int) ≤ 8388608; decide)
              have HL4 := Lib.hid hL4
              clear hL4
              clear hcb hzb hrb hck
              obtain ⟨_, hcb, hzb, hrb⟩ := HU.out
              go_wp2_with fail
              refine (hKa _).mono ?_
              rintro e w51 ⟨rfl, hb51⟩
              have HU := Lib.hid (HU.out.next hb51)
              clear hcb hrb hzb hb51
              obtain ⟨_, hcb, hzb, hrb⟩ := HU.out
              go_wp2_with fail
              refine (hMa _).mono ?_
              rintro e w52 ⟨rfl, hb52⟩
              have HU := Lib.hid (HU.out.next hb52)
              clear hcb hrb hzb hb52
              go_wp2_with fail
              go_roundw
              case rel => exact ⟨j + 1, _, _, false, hj2, by go_num, HQ.out, rfl, rfl, by rw [HL4.out, HL3.out, HL2.out, HL1.out]; exact HIS.out.symm, HU.out⟩
              case measure => simp [intOf]; omega
            · rw [Sw.tStep_first hbt] at hIS
              have HIS := Lib.hid hIS
              clear hIS hbt hbt2 hb1
              go_wp2_with fail
              refine (hbit _).mono ?_
              rintro e w' ⟨rfl, rfl⟩
              obtain ⟨L2, hL2⟩ : ∃ X, X = t' ++ Sw.dig k := ⟨_, rfl⟩
              have nL2 : L2.length = (t').length + 1 := by rw [hL2, List.length_append]; rfl
              have hc2 : ∀ W, (Op.stringOp .add ⟨(t').toArray⟩ ⟨(Sw.dig k).toArray⟩).run Tryd.prog W = .ok (.string ⟨(L2).toArray⟩) W := fun W => by rw [hL2]; exact run_string_add_lists W (t') (Sw.dig k) (by omega) (by show ((1 : Nat) : Int) ≤ 8388608; decide)
              have HL2 := Lib.hid hL2
              clear hL2
              obtain ⟨L3, hL3⟩ : ∃ X, X = L2 ++ [45] := ⟨_, rfl⟩
              have nL3 : L3.length = (L2).length + 1 := by rw [hL3, List.length_append]; rfl
              have hc3 : ∀ W, (Op.stringOp .add ⟨(L2).toArray⟩ ⟨([45]).toArray⟩).run Tryd.prog W = .ok (.string ⟨(L3).toArray⟩) W := fun W => by rw [hL3]; exact run_string_add_lists W (L2) ([45]) (by omega) (by show ((1 : Nat) : Int) ≤ 8388608; decide)
              have HL3 := Lib.hid hL3
              clear hL3
              obtain ⟨L4, hL4⟩ : ∃ X, X = L3 ++ Sw.dig m := ⟨_, rfl⟩
              have nL4 : L4.length = (L3).length + 1 := by rw [hL4, List.length_append]; rfl
              have hc4 : ∀ W, (Op.stringOp .add ⟨(L3).toArray⟩ ⟨(Sw.dig m).toArray⟩).run Tryd.prog W = .ok (.string ⟨(L4).toArray⟩) W := fun W => by rw [hL4]; exact run_string_add_lists W (L3) (Sw.dig m) (by omega) (by show ((1 : Nat) : Int) ≤ 8388608; decide)
              have HL4 := Lib.hid hL4
              clear hL4
              clear hcb hzb hrb hck
              obtain ⟨_, hcb, hzb, hrb⟩ := HU.out
              go_wp2_with fail
              refine (hKa _).mono ?_
              rintro e w61 ⟨rfl, hb61⟩
              have HU := Lib.hid (HU.out.next hb61)
              clear hcb hrb hzb hb61
              obtain ⟨_, hcb, hzb, hrb⟩ := HU.out
              go_wp2_with fail
              refine (hMa _).mono ?_
              rintro e w62 ⟨rfl, hb62⟩
              have HU := Lib.hid (HU.out.next hb62)
              clear hcb hrb hzb hb62
              go_wp2_with fail
              go_roundw
              case rel => exact ⟨j + 1, _, _, false, hj2, by go_num, HQ.out, rfl, rfl, by rw [HL4.out, HL3.out, HL2.out]; exact HIS.out.symm, HU.out⟩
              case measure => simp [intOf]; omega
        · have hmn : m = G.length := by omega
          have hdj : decide ((m : Int) < (G.length : Int)) = false := by rw [decide_eq_false_iff_not]; omega
          have HE : Hid ((t', b') = Sw.tOut G (k + 1)) := by
            show _ = _
            rw [HI.out, Sw.tOut_succ, ← HT.out]
            congr 1; omega
          clear hm hmn
          go_wp2_with fail
          go_roundw
          case rel => exact ⟨k + 1, t', b', by omega, by go_num, rfl, rfl, HE.out, HU.out⟩
          case measure => simp [intOf]; omega
    · have hkn : k = G.length := by omega
      subst hkn
      have hd : decide ((G.length : Int) < (G.length : Int)) = false := by rw [decide_eq_false_iff_not]; omega
      have HE : Hid (t = Sw.gText G) := by show _ = _; unfold Sw.gText; rw [← HT.out]
      go_wp2_with fail
      go_ret
      exact ⟨by rw [HE.out]; rfl, HU.out.1⟩
end Go.Proofs.YtmghnfadgnolpaaDoor

