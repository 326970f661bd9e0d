/- PressDo, PressSet and Quiet of the program and of the reference, and what they call, each by its contract. No conditions. -/
import Derived.Test.YtakgcdiofpijmaaSv
namespace Go.Proofs.Ytakgcdiofpijmaa
open Go.RowKit
theorem pressChange (G : List Nat) (hG : Sw.GVN G) (ad : Addr) (c k : Nat) (hk : k < G.length) (w : World) (hr : RdG w w.heap.size ad G) :
    Calls Try.prog 49 #[.agg #[.slice (some ad) G.length c], .int .i64 k] w fun e w' => e = .returned (.int .i64 (Sw.row G k : Nat)) ∧ Below w.heap.size w w' := by
  have hn := hG.le
  have hpp : (2 : Int) ^ k ≤ 512 := pow9 (by omega)
  have hpp1 := pow1 k
  have hcell := (hr.below (below1 (.cells #[.slice (some ad) G.length c] 27))).cell k hk
  have hw1 : IntKind.i64.wrap ((2 : Int) ^ k) = 2 ^ k := IntWalk.i64_in _ (by omega)
  have hx' : bits .xor .i64 ((Sw.nb G k : Nat) : Int) ((2 : Int) ^ k) = (Sw.row G k : Nat) := by
    rw [pow_nat]; exact i64_xor _ _ (lt63 hn (hG.lt k)) (lt63 hn (Sw.two_lt hk))
  go_enter Try.func49, Try.ntmps49
  go_wp2_with fail
  go_quiet (fail)
  go_wp2
  go_ret
  exact ⟨rfl, bdr (below1 _) _⟩
theorem pressesChange (G : List Nat) (hG : Sw.GVN G) (ad : Addr) (c s : Nat) (hs : s < 1099511627776) (w : World) (hr : RdG w w.heap.size ad G) :
    Calls Try.prog 51 #[.agg #[.slice (some ad) G.length c], .int .i64 s] w fun e w' => e = .returned (.int .i64 (Sw.prs G s : Nat)) ∧ Below w.heap.size w w' := by
  have hn := hG.le
  have hb0 := below1 (w := w) (.cells #[.slice (some ad) G.length c] 27)
  go_enter Try.func51, Try.ntmps51
  go_wp2_with fail
  go_loopw [5, 10] (fun a i wr => ∃ k : Nat, k ≤ G.length ∧ i = .int .i64 k ∧ a = .int .i64 (Sw.xsK (Sw.row G) s k : Nat) ∧ Below w.heap.size w wr ∧ wr.cell? ⟨w.heap.size, 0, none⟩ = some (.slice (some ad) G.length c) ∧ w.heap.size < wr.heap.size) (fun _ i _ => (G.length - intOf i).toNat)
  case atStart => exact ⟨0, by omega, rfl, rfl, below1 _, cell_new _ _ _, by simp⟩
  case round =>
    obtain ⟨k, hk, rfl, rfl, hb, hc, hz⟩ := hrel
    by_cases hlt : k < G.length
    · rcases shr_bit s k hs with ⟨h1, hbt⟩ | ⟨h1, hbt⟩
      · have HS : Hid (Sw.xsK (Sw.row G) s (k + 1) = Sw.xsK (Sw.row G) s k ^^^ Sw.row G k) := by rw [Sw.xsK_succ, if_pos h1]; rfl
        have hx := i64_xor (Sw.xsK (Sw.row G) s k) (Sw.row G k) (lt63 hn (Sw.prsK_lt hG s hk)) (lt63 hn (Sw.row_lt hG hlt))
        clear h1
        go_wp2_with fail
        refine (pressChange G hG ad c k hlt _ (hr.at_ hb)).mono ?_
        rintro e w2 ⟨rfl, hb2⟩
        obtain ⟨hb, hc, hz⟩ := box_next hb hc hz hb2
        go_wp2_with fail
        go_roundw
        case rel => exact ⟨k + 1, by omega, by go_num, by rw [HS.out], hb, hc, hz⟩
        case measure => simp [intOf]; omega
      · have HS : Hid (Sw.xsK (Sw.row G) s (k + 1) = Sw.xsK (Sw.row G) s k) := by rw [Sw.xsK_succ, h1]; rfl
        clear h1
        go_wp2_with fail
        go_roundw
        case rel => exact ⟨k + 1, by omega, by go_num, by rw [HS.out], hb, hc, hz⟩
        case measure => simp [intOf]; omega
    · have : k = G.length := by omega
      subst this
      go_wp2_with fail
      go_ret
      exact ⟨rfl, hb⟩
theorem l2Press (G : List Nat) (hG : Sw.GVN G) (ad : Addr) (c s : Nat) (hs : s < 1099511627776) (w : World) (hr : RdG w w.heap.size ad G) :
    Calls Try.prog 55 #[.agg #[.slice (some ad) G.length c], .int .i64 s] w fun e w' => e = .returned (.int .i64 (Sw.prs G s : Nat)) ∧ Below w.heap.size w w' := by
  have hn := hG.le
  go_enter Try.func55, Try.ntmps55
  go_wp2_with fail
  go_loopw [5, 6] (fun a i wr => ∃ k : Nat, k ≤ G.length ∧ i = .int .i64 k ∧ a = .int .i64 (Sw.xsK (Sw.row G) s k : Nat) ∧ Below w.heap.size w wr ∧ wr.cell? ⟨w.heap.size, 0, none⟩ = some (.slice (some ad) G.length c) ∧ w.heap.size < wr.heap.size) (fun _ i _ => (G.length - intOf i).toNat)
  case atStart => exact ⟨0, by omega, rfl, rfl, below1 _, cell_new _ _ _, by simp⟩
  case round =>
    obtain ⟨k, hk, rfl, rfl, hb, hc, hz⟩ := hrel
    by_cases hlt : k < G.length
    · by_cases hbit : s.testBit k
      · have HS : Hid (Sw.xsK (Sw.row G) s (k + 1) = Sw.xsK (Sw.row G) s k ^^^ Sw.row G k) := by rw [Sw.xsK_succ, if_pos hbit]; rfl
        have HB := Lib.hid (Sw.bit_one.2 hbit)
        have hcell := (hr.below hb).cell k hlt
        have hpp : (2 : Int) ^ k ≤ 512 := pow9 (by omega)
        have hpp1 := pow1 k
        have hnb := Sw.pow_le9 hn
        have hnl := hG.lt k
        have hw1 : IntKind.i64.wrap ((2 : Int) ^ k) = 2 ^ k := IntWalk.i64_in _ (by omega)
        have hw2 : IntKind.i64.wrap (((Sw.nb G k : Nat) : Int) + 2 ^ k) = (Sw.row G k : Nat) := by
          rw [IntWalk.i64_in _ (by omega), ← Sw.row_add hG, pow_nat]; omega
        clear hnb hnl
        have hx1 := lt40 hn (Sw.prsK_lt hG s hk)
        have hx2 := lt40 hn (Sw.row_lt hG hlt)
        clear hbit
        go_wp2_with fail
        refine (l1Bit s k hs (by omega) _).mono ?_
        rw [HB.out]
        rintro e w2 ⟨rfl, rfl⟩
        go_wp2_with fail
        go_quiet ((go_at_call 53; exact q_left (l1Other _ _ hx1 hx2 _)))
        clear hw1 hw2
        go_wp2_with fail
        go_roundw
        case rel => exact ⟨k + 1, by omega, by go_num, by rw [HS.out], bdr hb _, by simpa using hc, by simpa using hz⟩
        case measure => simp [intOf]; omega
      · have HS : Hid (Sw.xsK (Sw.row G) s (k + 1) = Sw.xsK (Sw.row G) s k) := by rw [Sw.xsK_succ, if_neg hbit]; rfl
        have HB := Lib.hid (Sw.bit_zero.2 (Bool.not_eq_true _ ▸ hbit))
        clear hbit
        go_wp2_with fail
        refine (l1Bit s k hs (by omega) _).mono ?_
        rw [HB.out]
        rintro e w2 ⟨rfl, rfl⟩
        go_wp2_with fail
        go_roundw
        case rel => exact ⟨k + 1, by omega, by go_num, by rw [HS.out], hb, hc, hz⟩
        case measure => simp [intOf]; omega
    · have : k = G.length := by omega
      subst this
      go_wp2_with fail
      go_ret
      exact ⟨rfl, hb⟩
theorem implPressSet (l : List Int) (A : Option Addr) (c : Nat) (s : Int) (hl : l.length ≤ 1099511627776) (w : World) (hr : RdI w w.heap.size A l) :
    Calls Try.prog 27 #[.agg #[.slice A l.length c], .int .i64 s] w fun e w' => e = .returned (.int .i64 (Sw.vPress l s)) ∧ Below w.heap.size w w' := by
  have hr1 := hr.at_ (below1 (.cells #[.slice A l.length c] 27))
  rcases Sw.svB_cases l s with hv | ⟨G, S, rfl, hG, rfl, hS⟩
  · have HF := Lib.hid (Sw.vPress_no hv)
    go_enter Try.func27, Try.ntmps27
    go_wp2_with fail
    refine (implSV_no l A c s hl hv _ hr1).mono ?_
    rintro e w1 ⟨rfl, hb⟩
    obtain ⟨hb, hc, hz⟩ := box_after hb
    go_wp2_with fail
    go_ret
    exact ⟨ret_i HF.out.symm, hb⟩
  · have HF := Lib.hid (Sw.vPress_yes hG hS)
    obtain ⟨ad, rfl, hrg⟩ := RdG.of hG hr
    have hS40 := lt40 hG.le hS
    rw [Sw.toI_len]
    go_enter Try.func27, Try.ntmps27
    go_wp2_with fail
    refine (implSV G hG S hS ad c _ (hrg.at_ (below1 _))).mono ?_
    rintro e w1 ⟨rfl, hb⟩
    obtain ⟨hb, hc, hz⟩ := box_after hb
    go_wp2_with fail
    refine (pressesChange G hG ad c S hS40 _ (hrg.at_ hb)).mono ?_
    rintro e w2 ⟨rfl, hb2⟩
    obtain ⟨hb, hc, hz⟩ := box_next hb hc hz hb2
    go_wp2_with fail
    go_ret
    exact ⟨ret_i HF.out.symm, hb⟩
theorem specPressSet (l : List Int) (A : Option Addr) (c : Nat) (s : Int) (hl : l.length ≤ 1099511627776) (w : World) (hr : RdI w w.heap.size A l) :
    Calls Try.prog 33 #[.agg #[.slice A l.length c], .int .i64 s] w fun e w' => e = .returned (.int .i64 (Sw.vPress l s)) ∧ Below w.heap.size w w' := by
  have hr1 := hr.at_ (below1 (.cells #[.slice A l.length c] 27))
  rcases Sw.svB_cases l s with hv | ⟨G, S, rfl, hG, rfl, hS⟩
  · have HF := Lib.hid (Sw.vPress_no hv)
    go_enter Try.func33, Try.ntmps33
    go_wp2_with fail
    refine (specSV_no l A c s hl hv _ hr1).mono ?_
    rintro e w1 ⟨rfl, hb⟩
    obtain ⟨hb, hc, hz⟩ := box_after hb
    go_wp2_with fail
    go_ret
    exact ⟨ret_i HF.out.symm, hb⟩
  · have HF := Lib.hid (Sw.vPress_yes hG hS)
    obtain ⟨ad, rfl, hrg⟩ := RdG.of hG hr
    have hS40 := lt40 hG.le hS
    rw [Sw.toI_len]
    go_enter Try.func33, Try.ntmps33
    go_wp2_with fail
    refine (specSV G hG S hS ad c _ (hrg.at_ (below1 _))).mono ?_
    rintro e w1 ⟨rfl, hb⟩
    obtain ⟨hb, hc, hz⟩ := box_after hb
    go_wp2_with fail
    refine (l2Press G hG ad c S hS40 _ (hrg.at_ hb)).mono ?_
    rintro e w2 ⟨rfl, hb2⟩
    obtain ⟨hb, hc, hz⟩ := box_next hb hc hz hb2
    go_wp2_with fail
    go_ret
    exact ⟨ret_i HF.out.symm, hb⟩
theorem implQuiet (l : List Int) (A : Option Addr) (c : Nat) (s : Int) (hl : l.length ≤ 1099511627776) (w : World) (hr : RdI w w.heap.size A l) :
    Calls Try.prog 36 #[.agg #[.slice A l.length c], .int .i64 s] w fun e w' => e = .returned (.bool (Sw.vQuiet l s)) ∧ Below w.heap.size w w' := by
  have hr1 := hr.at_ (below1 (.cells #[.slice A l.length c] 27))
  rcases Sw.svB_cases l s with hv | ⟨G, S, rfl, hG, rfl, hS⟩
  · have HF := Lib.hid (Sw.vQuiet_no hv)
    go_enter Try.func36, Try.ntmps36
    go_wp2_with fail
    refine (implSV_no l A c s hl hv _ hr1).mono ?_
    rintro e w1 ⟨rfl, hb⟩
    obtain ⟨hb, hc, hz⟩ := box_after hb
    go_wp2_with fail
    go_ret
    exact ⟨ret_b HF.out.symm, hb⟩
  · have HF := Lib.hid (Sw.vQuiet_yes hG hS)
    obtain ⟨ad, rfl, hrg⟩ := RdG.of hG hr
    have hS40 := lt40 hG.le hS
    rw [Sw.toI_len]
    go_enter Try.func36, Try.ntmps36
    go_wp2_with fail
    refine (implSV G hG S hS ad c _ (hrg.at_ (below1 _))).mono ?_
    rintro e w1 ⟨rfl, hb⟩
    obtain ⟨hb, hc, hz⟩ := box_after hb
    go_wp2_with fail
    refine (pressesChange G hG ad c S hS40 _ (hrg.at_ hb)).mono ?_
    rintro e w2 ⟨rfl, hb2⟩
    obtain ⟨hb, hc, hz⟩ := box_next hb hc hz hb2
    go_wp2_with fail
    go_ret
    exact ⟨ret_b (by rw [HF.out]; exact beq_nat_zero _), hb⟩
theorem specQuiet (l : List Int) (A : Option Addr) (c : Nat) (s : Int) (hl : l.length ≤ 1099511627776) (w : World) (hr : RdI w w.heap.size A l) :
    Calls Try.prog 37 #[.agg #[.slice A l.length c], .int .i64 s] w fun e w' => e = .returned (.bool (Sw.vQuiet l s)) ∧ Below w.heap.size w w' := by
  have hr1 := hr.at_ (below1 (.cells #[.slice A l.length c] 27))
  rcases Sw.svB_cases l s with hv | ⟨G, S, rfl, hG, rfl, hS⟩
  · have HF := Lib.hid (Sw.vQuiet_no hv)
    go_enter Try.func37, Try.ntmps37
    go_wp2_with fail
    refine (specSV_no l A c s hl hv _ hr1).mono ?_
    rintro e w1 ⟨rfl, hb⟩
    obtain ⟨hb, hc, hz⟩ := box_after hb
    go_wp2_with fail
    go_ret
    exact ⟨ret_b HF.out.symm, hb⟩
  · have HF := Lib.hid (Sw.vQuiet_yes hG hS)
    obtain ⟨ad, rfl, hrg⟩ := RdG.of hG hr
    have hS40 := lt40 hG.le hS
    rw [Sw.toI_len]
    go_enter Try.func37, Try.ntmps37
    go_wp2_with fail
    refine (specSV G hG S hS ad c _ (hrg.at_ (below1 _))).mono ?_
    rintro e w1 ⟨rfl, hb⟩
    obtain ⟨hb, hc, hz⟩ := box_after hb
    go_wp2_with fail
    refine (l2Press G hG ad c S hS40 _ (hrg.at_ hb)).mono ?_
    rintro e w2 ⟨rfl, hb2⟩
    obtain ⟨hb, hc, hz⟩ := box_next hb hc hz hb2
    go_wp2_with fail
    go_ret
    exact ⟨ret_b (by rw [HF.out]; exact beq_nat_zero _), hb⟩
theorem implPressDo (l : List Int) (A : Option Addr) (c : Nat) (s p : Int) (hl : l.length ≤ 1099511627776) (w : World) (hr : RdI w w.heap.size A l) :
    Calls Try.prog 29 #[.agg #[.slice A l.length c], .int .i64 s, .int .i64 p] w fun e w' => e = .returned (.int .i64 (Sw.vPressDo l s p)) ∧ Below w.heap.size w w' := by
  have hr1 := hr.at_ (below1 (.cells #[.slice A l.length c] 27))
  rcases Sw.svB_cases l s with hv | ⟨G, S, rfl, hG, rfl, hS⟩
  · have HF := Lib.hid (Sw.vPressDo_no1 (p := p) hv)
    go_enter Try.func29, Try.ntmps29
    go_wp2_with fail
    refine (implSV_no l A c s hl hv _ hr1).mono ?_
    rintro e w1 ⟨rfl, hb⟩
    obtain ⟨hb, hc, hz⟩ := box_after hb
    go_wp2_with fail
    go_ret
    exact ⟨ret_i HF.out.symm, hb⟩
  · obtain ⟨ad, rfl, hrg⟩ := RdG.of hG hr
    have hn := hG.le
    rw [Sw.toI_len]
    by_cases hp0 : 0 ≤ p
    · obtain ⟨k, rfl⟩ := Int.eq_ofNat_of_zero_le hp0
      by_cases hk : k < G.length
      · have HF := Lib.hid (Sw.vPressDo_yes hG hS hk)
        have hx := i64_xor S (Sw.row G k) (lt63 hn hS) (lt63 hn (Sw.row_lt hG hk))
        go_enter Try.func29, Try.ntmps29
        go_wp2_with fail
        refine (implSV G hG S hS ad c _ (hrg.at_ (below1 _))).mono ?_
        rintro e w1 ⟨rfl, hb⟩
        obtain ⟨hb, hc, hz⟩ := box_after hb
        go_wp2_with fail
        refine (pressChange G hG ad c k hk _ (hrg.at_ hb)).mono ?_
        rintro e w2 ⟨rfl, hb2⟩
        obtain ⟨hb, hc, hz⟩ := box_next hb hc hz hb2
        go_wp2_with fail
        go_ret
        exact ⟨ret_i HF.out.symm, hb⟩
      · have HF := Lib.hid (Sw.vPressDo_no2 (l := Sw.toI G) (s := (S : Int)) (p := (k : Int)) (Sw.ptB_out (by rw [Sw.toI_len]; omega)))
        have hk' : G.length ≤ k := by omega
        go_enter Try.func29, Try.ntmps29
        go_wp2_with fail
        refine (implSV G hG S hS ad c _ (hrg.at_ (below1 _))).mono ?_
        rintro e w1 ⟨rfl, hb⟩
        obtain ⟨hb, hc, hz⟩ := box_after hb
        go_wp2_with fail
        go_ret
        exact ⟨ret_i HF.out.symm, hb⟩
    · have HF := Lib.hid (Sw.vPressDo_no2 (l := Sw.toI G) (s := (S : Int)) (p := p) (Sw.ptB_out (by omega)))
      go_enter Try.func29, Try.ntmps29
      go_wp2_with fail
      refine (implSV G hG S hS ad c _ (hrg.at_ (below1 _))).mono ?_
      rintro e w1 ⟨rfl, hb⟩
      obtain ⟨hb, hc, hz⟩ := box_after hb
      go_wp2_with fail
      go_ret
      exact ⟨ret_i HF.out.symm, hb⟩
theorem specPressDo (l : List Int) (A : Option Addr) (c : Nat) (s p : Int) (hl : l.length ≤ 1099511627776) (w : World) (hr : RdI w w.heap.size A l) :
    Calls Try.prog 30 #[.agg #[.slice A l.length c], .int .i64 s, .int .i64 p] w fun e w' => e = .returned (.int .i64 (Sw.vPressDo l s p)) ∧ Below w.heap.size w w' := by
  have hr1 := hr.at_ (below1 (.cells #[.slice A l.length c] 27))
  rcases Sw.svB_cases l s with hv | ⟨G, S, rfl, hG, rfl, hS⟩
  · have HF := Lib.hid (Sw.vPressDo_no1 (p := p) hv)
    go_enter Try.func30, Try.ntmps30
    go_wp2_with fail
    refine (specSV_no l A c s hl hv _ hr1).mono ?_
    rintro e w1 ⟨rfl, hb⟩
    obtain ⟨hb, hc, hz⟩ := box_after hb
    go_wp2_with fail
    go_ret
    exact ⟨ret_i HF.out.symm, hb⟩
  · obtain ⟨ad, rfl, hrg⟩ := RdG.of hG hr
    have hn := hG.le
    rw [Sw.toI_len]
    by_cases hp : 0 ≤ p ∧ p ≤ (G.length : Int) - 1
    · obtain ⟨k, rfl⟩ := Int.eq_ofNat_of_zero_le hp.1
      have hk : k < G.length := by omega
      have HF := Lib.hid (Sw.vPressDo_yes hG hS hk)
      have hx1 := lt40 hn hS
      have hx2 := lt40 hn (Sw.row_lt hG hk)
      have hpp : (2 : Int) ^ k ≤ 512 := pow9 (by omega)
      have hpp1 := pow1 k
      have hnb := Sw.pow_le9 hn
      have hnl := hG.lt k
      have hw1 : IntKind.i64.wrap ((2 : Int) ^ k) = 2 ^ k := IntWalk.i64_in _ (by omega)
      have hw2 : IntKind.i64.wrap (((Sw.nb G k : Nat) : Int) + 2 ^ k) = (Sw.row G k : Nat) := by
        rw [IntWalk.i64_in _ (by omega), ← Sw.row_add hG, pow_nat]; omega
      have HP := Lib.hid hp
      clear hnb hnl hp
      go_enter Try.func30, Try.ntmps30
      go_wp2_with fail
      refine (specSV G hG S hS ad c _ (hrg.at_ (below1 _))).mono ?_
      rintro e w1 ⟨rfl, hb⟩
      obtain ⟨hb, hc, hz⟩ := box_after hb
      have hcell := (hrg.below hb).cell k hk
      go_wp2_with fail
      refine (l1In_yes _ _ _ _ HP.out.1 HP.out.2).mono ?_
      rintro e w2 ⟨rfl, rfl⟩
      go_wp2_with fail
      go_quiet ((go_at_call 53; exact q_left (l1Other _ _ hx1 hx2 _)))
      clear hw1 hw2
      go_wp2_with fail
      go_ret
      exact ⟨ret_i HF.out.symm, bdr hb _⟩
    · have HF := Lib.hid (Sw.vPressDo_no2 (l := Sw.toI G) (s := (S : Int)) (p := p) (Sw.ptB_out (by rw [Sw.toI_len]; omega)))
      have HP : Hid (p < 0 ∨ (G.length : Int) - 1 < p) := by show _ ∨ _; omega
      clear hp
      go_enter Try.func30, Try.ntmps30
      go_wp2_with fail
      refine (specSV G hG S hS ad c _ (hrg.at_ (below1 _))).mono ?_
      rintro e w1 ⟨rfl, hb⟩
      obtain ⟨hb, hc, hz⟩ := box_after hb
      go_wp2_with fail
      refine (l1In_no _ _ _ _ HP.out).mono ?_
      rintro e w2 ⟨rfl, rfl⟩
      go_wp2_with fail
      go_ret
      exact ⟨ret_i HF.out.symm, hb⟩
end Go.Proofs.Ytakgcdiofpijmaa

