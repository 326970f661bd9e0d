/- GraphValid and SetValid of the program and of the reference, each by its contract: for every list of ints they answer whether it is a valid graph, and whether a set is one of its points. No conditions. -/
import Derived.Test.YtmghnfadgnolpaaDoorInts
namespace Go.Proofs.YtmghnfadgnolpaaDoor
open Go.RowKit
theorem implGraphValid (l : List Int) (A : Option Addr) (c : Nat) (hl : l.length ≤ 1099511627776) (w : World) (hr : RdI w w.heap.size A l) :
    Calls Tryd.prog 8 #[.agg #[.slice A l.length c]] w fun e w' => e = .returned (.bool (Sw.gvB l)) ∧ Below w.heap.size w w' := by
  by_cases h1 : 1 ≤ l.length
  · by_cases h9 : l.length ≤ 9
    · have hp := pow9 h9
      have hp1 := pow1 l.length
      go_enter Tryd.func8, Tryd.ntmps8
      go_wp2
      go_loop [21] (fun i => ∃ k : Nat, k ≤ l.length ∧ i = .int .i64 k ∧ ∀ j, j < k → Sw.okOne l j) (fun i => (l.length - intOf i).toNat)
      case atStart => exact ⟨0, by omega, rfl, fun j hj => by omega⟩
      case round =>
        obtain ⟨k, hk, rfl, ho⟩ := hrel
        have HO := Lib.hid ho
        clear ho
        by_cases hlt : k < l.length
        · obtain ⟨ad, rfl, hb, hc⟩ := (hr.below (below1 (.cells #[.slice A l.length c] 25))) k hlt
          by_cases g0 : 0 ≤ Sw.gat l k
          · by_cases g1 : Sw.gat l k < 2 ^ l.length
            · rcases int_bit (Sw.gat l k) k g0 (by omega) with ⟨hi, hbt⟩ | ⟨hi, hbt⟩
              · have HF : Hid (Sw.gvB l = false) := Sw.gvB_false.2 fun h => by have := (h.one k).2.2; omega
                clear hi
                go_wp2
                go_ret
                exact ⟨ret_b HF.out.symm, below1 _⟩
              · have HN : Hid (Sw.okOne l k) := ⟨g0, g1, hi⟩
                clear hi
                go_wp2
                go_round
                case rel =>
                  refine ⟨k + 1, by omega, by go_num, fun j hj => ?_⟩
                  rcases Nat.lt_succ_iff_lt_or_eq.1 hj with q | q
                  · exact HO.out j q
                  · subst q; exact HN.out
                case measure => simp [intOf]; omega
            · have HF : Hid (Sw.gvB l = false) := Sw.gvB_false.2 fun h => g1 (h.one k).2.1
              go_wp2
              go_ret
              exact ⟨ret_b HF.out.symm, below1 _⟩
          · have HF : Hid (Sw.gvB l = false) := Sw.gvB_false.2 fun h => g0 (h.one k).1
            go_wp2
            go_ret
            exact ⟨ret_b HF.out.symm, below1 _⟩
        · have : k = l.length := by omega
          subst this
          go_wp2
          go_loopw [45] (fun i wr => ∃ k : Nat, k ≤ l.length ∧ i = .int .i64 k ∧ Below w.heap.size w wr ∧ w.heap.size < wr.heap.size ∧ wr.cell? ⟨w.heap.size, 0, none⟩ = some (.slice A l.length c) ∧ ∀ k', k' < k → ∀ j, j < l.length → Sw.ibit (Sw.gat l k') j = Sw.ibit (Sw.gat l j) k') (fun i _ => (l.length - intOf i).toNat)
          case atStart => exact ⟨0, by omega, rfl, below1 _, by simp, by simp [go_sem], fun k' hk' => by omega⟩
          case round =>
            obtain ⟨k, hk, rfl, hb, hz, hcell, ht⟩ := hrel
            have HT := Lib.hid ht
            clear ht
            by_cases hlt : k < l.length
            · obtain ⟨wo, rfl⟩ : ∃ wo : World, wo = wr := ⟨_, rfl⟩
              obtain ⟨ad, rfl, hbl, hc⟩ := (hr.below hb) k hlt
              have hk := HO.out k hlt
              have g0 := hk.1
              have g1 := hk.2.1
              clear hk
              go_wp2
              go_loopw [51] (fun i wr => ∃ j : Nat, j ≤ l.length ∧ i = .int .i64 j ∧ Below w.heap.size w wr ∧ w.heap.size < wr.heap.size ∧ wr.cell? ⟨w.heap.size, 0, none⟩ = some (.slice (some ad) l.length c) ∧ ∀ j', j' < j → Sw.ibit (Sw.gat l k) j' = Sw.ibit (Sw.gat l j') k) (fun i _ => (l.length - intOf i).toNat)
              case atStart => exact ⟨0, by omega, rfl, hb, hz, hcell, fun k' hk' => by omega⟩
              case round =>
                obtain ⟨j, hj, rfl, hb', hz', hcell', hi⟩ := hrel
                have HI := Lib.hid hi
                clear hi hb hz hcell hc
                by_cases hjl : j < l.length
                · obtain ⟨ad', e, hbl', hc'⟩ := (hr.below hb') j hjl
                  injection e with e
                  subst e
                  have hj' := HO.out j hjl
                  have g0' := hj'.1
                  have g1' := hj'.2.1
                  clear hj'
                  rcases int_bit (Sw.gat l k) j g0 (by omega) with ⟨q1, hb1⟩ | ⟨q1, hb1⟩ <;> rcases int_bit (Sw.gat l j) k g0' (by omega) with ⟨q2, hb2⟩ | ⟨q2, hb2⟩
                  case inl.inl | inr.inr =>
                    have HE : Hid (Sw.ibit (Sw.gat l k) j = Sw.ibit (Sw.gat l j) k) := q1.trans q2.symm
                    clear q1 q2
                    go_wp2
                    go_quiet (fail)
                    go_wp2
                    go_roundw
                    case rel =>
                      refine ⟨j + 1, by omega, by go_num, bdr hb' _, by simpa using hz', by simpa using hcell', fun i hi => ?_⟩
                      rcases Nat.lt_succ_iff_lt_or_eq.1 hi with q | q
                      · exact HI.out i q
                      · subst q; exact HE.out
                    case measure => simp [intOf]; omega
                  all_goals
                    have HF : Hid (Sw.gvB l = false) := Sw.gvB_false.2 fun h => by have := h.two j k; omega
                    clear q1 q2
                    go_wp2
                    go_quiet (fail)
                    go_wp2
                    go_ret
                    exact ⟨ret_b HF.out.symm, bdr hb' _⟩
                · have : j = l.length := by omega
                  subst this
                  go_wp2
                  go_roundw
                  case rel =>
                    refine ⟨k + 1, by omega, by go_num, hb', hz', hcell', fun i hi => ?_⟩
                    rcases Nat.lt_succ_iff_lt_or_eq.1 hi with q | q
                    · exact HT.out i q
                    · subst q; exact HI.out
                  case measure => simp [intOf]; omega
            · have : k = l.length := by omega
              subst this
              have HV : Hid (Sw.gvB l = true) := Sw.gvB_true.2 (Sw.GV.mk h1 h9 HO.out fun k hk j hj => HT.out k hk j (by omega))
              go_wp2
              go_ret
              exact ⟨ret_b HV.out.symm, hb⟩
    · have HF : Hid (Sw.gvB l = false) := Sw.gvB_false.2 fun h => h9 h.len.2
      go_enter Tryd.func8, Tryd.ntmps8
      go_wp2
      go_ret
      exact ⟨ret_b HF.out.symm, below1 _⟩
  · have HF : Hid (Sw.gvB l = false) := Sw.gvB_false.2 fun h => h1 h.len.1
    go_enter Tryd.func8, Tryd.ntmps8
    go_wp2
    go_ret
    exact ⟨ret_b HF.out.symm, below1 _⟩
theorem specGraphValid (l : List Int) (A : Option Addr) (c : Nat) (hl : l.length ≤ 1099511627776) (w : World) (hr : RdI w w.heap.size A l) :
    Calls Tryd.prog 20 #[.agg #[.slice A l.length c]] w fun e w' => e = .returned (.bool (Sw.gvB l)) ∧ Below w.heap.size w w' := by
  by_cases hn : 1 ≤ l.length ∧ l.length ≤ 9
  · obtain ⟨h1, h9⟩ := hn
    have hp := pow9 h9
    have hp1 := pow1 l.length
    go_enter Tryd.func20, Tryd.ntmps20
    go_wp2_with fail
    refine (l1In_yes _ _ _ _ (by omega) (by omega)).mono ?_
    rintro e w' ⟨rfl, rfl⟩
    go_wp2_with fail
    go_loopw [4] (fun i wr => ∃ k : Nat, k ≤ l.length ∧ i = .int .i64 k ∧ Below w.heap.size w wr ∧ w.heap.size < wr.heap.size ∧ wr.cell? ⟨w.heap.size, 0, none⟩ = some (.slice A l.length c) ∧ ∀ k', k' < k → Sw.okOne l k' ∧ ∀ j, j < k' → Sw.ibit (Sw.gat l k') j = Sw.ibit (Sw.gat l j) k') (fun i _ => (l.length - intOf i).toNat)
    case atStart => exact ⟨0, by omega, rfl, below1 _, by simp, by simp [go_sem], fun k' hk' => by omega⟩
    case round =>
      obtain ⟨k, hk, rfl, hb, hz, hcell, ht⟩ := hrel
      have HT := Lib.hid ht
      clear ht
      by_cases hlt : k < l.length
      · obtain ⟨wo, rfl⟩ : ∃ wo : World, wo = wr := ⟨_, rfl⟩
        obtain ⟨ad, rfl, hbl, hc⟩ := (hr.below hb) k hlt
        by_cases g : 0 ≤ Sw.gat l k ∧ Sw.gat l k < 2 ^ l.length
        · obtain ⟨g0, g1⟩ := g
          rcases int_bit (Sw.gat l k) k g0 (by omega) with ⟨hi, _⟩ | ⟨hi, _⟩
          · have HF : Hid (Sw.gvB l = false) := Sw.gvB_false.2 fun h => by have := (h.one k).2.2; omega
            have HI := Lib.hid hi
            clear hi
            go_wp2_with fail
            go_quiet ((first | (go_at_call 29; exact q_left (l1In_yes _ _ _ _ (by omega) (by omega))) | (go_at_call 22; exact q_left (l1Bit1 _ _ (by omega) (by omega) (by omega) HI.out _))))
            go_wp2
            go_ret
            exact ⟨ret_b HF.out.symm, bdr hb _⟩
          · have HI := Lib.hid hi
            have HO : Hid (Sw.okOne l k) := ⟨g0, g1, hi⟩
            clear hi
            go_wp2_with fail
            go_quiet ((first | (go_at_call 29; exact q_left (l1In_yes _ _ _ _ (by omega) (by omega))) | (go_at_call 22; exact q_left (l1Bit0 _ _ (by omega) (by omega) (by omega) HI.out _))))
            go_wp2
            go_loopw [5] (fun i wr => ∃ j : Nat, j ≤ k ∧ i = .int .i64 j ∧ Below w.heap.size w wr ∧ w.heap.size < wr.heap.size ∧ wr.cell? ⟨w.heap.size, 0, none⟩ = some (.slice (some ad) l.length c) ∧ ∀ j', j' < j → Sw.ibit (Sw.gat l k) j' = Sw.ibit (Sw.gat l j') k) (fun i _ => (l.length - intOf i).toNat)
            case atStart => exact ⟨0, by omega, rfl, bdr hb _, by simpa using hz, by simpa using hcell, fun k' hk' => by omega⟩
            case round =>
              obtain ⟨j, hj, rfl, hb', hz', hcell', hi⟩ := hrel
              have HJ := Lib.hid hi
              clear hi hb hz hcell hc
              by_cases hjl : j < k
              · obtain ⟨ad', e, hbl', hc'⟩ := (hr.below hb') j (by omega)
                injection e with e
                subst e
                obtain ⟨ad', e, hbl2, hc2⟩ := (hr.below hb') k hlt
                injection e with e
                subst e
                have hj' := (HT.out j hjl).1
                have g0' := hj'.1
                have g1' := hj'.2.1
                clear hj'
                rcases int_bit (Sw.gat l k) j g0 (by omega) with ⟨q1, _⟩ | ⟨q1, _⟩ <;> rcases int_bit (Sw.gat l j) k g0' (by omega) with ⟨q2, _⟩ | ⟨q2, _⟩
                case inl.inl | inr.inr =>
                  have HE : Hid (Sw.ibit (Sw.gat l k) j = Sw.ibit (Sw.gat l j) k) := q1.trans q2.symm
                  go_wp2
                  go_quiet ((go_at_call 22; exact q_left (l1BitI _ _ (by omega) (by omega) (by omega) _)))
                  go_wp2
                  go_roundw
                  case rel =>
                    refine ⟨j + 1, by omega, by go_num, bdr hb' _, by simpa using hz', by simpa using hcell', fun i hi => ?_⟩
                    rcases Nat.lt_succ_iff_lt_or_eq.1 hi with q | q
                    · exact HJ.out i q
                    · subst q; exact HE.out
                  case measure => simp [intOf]; omega
                all_goals
                  have HF : Hid (Sw.gvB l = false) := Sw.gvB_false.2 fun h => by have := h.two j k; omega
                  go_wp2
                  go_quiet ((go_at_call 22; exact q_left (l1BitI _ _ (by omega) (by omega) (by omega) _)))
                  go_wp2
                  go_ret
                  exact ⟨ret_b HF.out.symm, bdr hb' _⟩
              · have : j = k := by omega
                subst this
                go_wp2
                go_roundw
                case rel =>
                  refine ⟨j + 1, by omega, by go_num, hb', hz', hcell', fun i hi => ?_⟩
                  rcases Nat.lt_succ_iff_lt_or_eq.1 hi with q | q
                  · exact HT.out i q
                  · subst q; exact ⟨HO.out, HJ.out⟩
                case measure => simp [intOf]; omega
        · have HF : Hid (Sw.gvB l = false) := Sw.gvB_false.2 fun h => g ⟨(h.one k).1, (h.one k).2.1⟩
          go_wp2_with fail
          go_quiet ((go_at_call 29; exact q_left (l1In_no _ _ _ _ (by omega))))
          go_wp2
          go_ret
          exact ⟨ret_b HF.out.symm, bdr hb _⟩
      · have : k = l.length := by omega
        subst this
        have HV : Hid (Sw.gvB l = true) := Sw.gvB_true.2 (Sw.GV.mk h1 h9 (fun k hk => (HT.out k hk).1) fun k hk j hj => (HT.out k hk).2 j hj)
        go_wp2
        go_ret
        exact ⟨ret_b HV.out.symm, hb⟩
  · have HF : Hid (Sw.gvB l = false) := Sw.gvB_false.2 fun h => hn h.len
    go_enter Tryd.func20, Tryd.ntmps20
    go_wp2_with fail
    refine (l1In_no _ _ _ _ (by omega)).mono ?_
    rintro e w' ⟨rfl, rfl⟩
    go_wp2_with fail
    go_ret
    exact ⟨ret_b HF.out.symm, below1 _⟩
theorem implGraphValid_no (l : List Int) (A : Option Addr) (c : Nat) (hl : l.length ≤ 1099511627776) (hg : Sw.gvB l = false) (w : World) (hr : RdI w w.heap.size A l) :
    Calls Tryd.prog 8 #[.agg #[.slice A l.length c]] w fun e w' => e = .returned (.bool false) ∧ Below w.heap.size w w' := by
  rw [← hg]; exact implGraphValid l A c hl w hr
theorem implGraphValid_yes (l : List Int) (A : Option Addr) (c : Nat) (hl : l.length ≤ 1099511627776) (hg : Sw.gvB l = true) (w : World) (hr : RdI w w.heap.size A l) :
    Calls Tryd.prog 8 #[.agg #[.slice A l.length c]] w fun e w' => e = .returned (.bool true) ∧ Below w.heap.size w w' := by
  rw [← hg]; exact implGraphValid l A c hl w hr
theorem specGraphValid_no (l : List Int) (A : Option Addr) (c : Nat) (hl : l.length ≤ 1099511627776) (hg : Sw.gvB l = false) (w : World) (hr : RdI w w.heap.size A l) :
    Calls Tryd.prog 20 #[.agg #[.slice A l.length c]] w fun e w' => e = .returned (.bool false) ∧ Below w.heap.size w w' := by
  rw [← hg]; exact specGraphValid l A c hl w hr
theorem specGraphValid_yes (l : List Int) (A : Option Addr) (c : Nat) (hl : l.length ≤ 1099511627776) (hg : Sw.gvB l = true) (w : World) (hr : RdI w w.heap.size A l) :
    Calls Tryd.prog 20 #[.agg #[.slice A l.length c]] w fun e w' => e = .returned (.bool true) ∧ Below w.heap.size w w' := by
  rw [← hg]; exact specGraphValid l A c hl w hr
theorem implGV (G : List Nat) (hG : Sw.GVN G) (ad : Addr) (c : Nat) (w : World) (hr : RdG w w.heap.size ad G) :
    Calls Tryd.prog 8 #[.agg #[.slice (some ad) G.length c]] w fun e w' => e = .returned (.bool true) ∧ Below w.heap.size w w' := by
  have h := implGraphValid_yes (Sw.toI G) (some ad) c (by rw [Sw.toI_len]; have := hG.le; omega) (Sw.gvB_yes hG) w hr.toI
  rw [Sw.toI_len] at h; exact h
theorem specGV (G : List Nat) (hG : Sw.GVN G) (ad : Addr) (c : Nat) (w : World) (hr : RdG w w.heap.size ad G) :
    Calls Tryd.prog 20 #[.agg #[.slice (some ad) G.length c]] w fun e w' => e = .returned (.bool true) ∧ Below w.heap.size w w' := by
  have h := specGraphValid_yes (Sw.toI G) (some ad) c (by rw [Sw.toI_len]; have := hG.le; omega) (Sw.gvB_yes hG) w hr.toI
  rw [Sw.toI_len] at h; exact h
end Go.Proofs.YtmghnfadgnolpaaDoor

