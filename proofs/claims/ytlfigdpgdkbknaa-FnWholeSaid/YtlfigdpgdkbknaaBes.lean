/- BesideSet of the program and of the reference, and what they call, each by its contract. No conditions but that sets are below 2^40. -/
import Derived.Test.YtlfigdpgdkbknaaSv
namespace Go.Proofs.Ytlfigdpgdkbknaa
open Go.RowKit
theorem besideUnion (G : List Nat) (hG : Sw.GVN G) (ad : Addr) (c s : Nat) (hs : s < 1099511627776) (w : World) (hr : RdG w w.heap.size ad G) :
    Calls Try.prog 45 #[.agg #[.slice (some ad) G.length c], .int .i64 s] w fun e w' => e = .returned (.int .i64 (Sw.bes G s : Nat)) ∧ Below w.heap.size w w' := by
  have hn := hG.le
  go_enter Try.func45, Try.ntmps45
  go_wp2
  go_loop [5, 11] (fun a i => ∃ k : Nat, k ≤ G.length ∧ i = .int .i64 k ∧ a = .int .i64 (Sw.besK G s k : Nat)) (fun _ i => (G.length - intOf i).toNat)
  case atStart => exact ⟨0, by omega, rfl, rfl⟩
  case round =>
    obtain ⟨k, hk, rfl, rfl⟩ := hrel
    by_cases hlt : k < G.length
    · have hc := ((hr.below (below1 (.cells #[.slice (some ad) G.length c] 25))).cell k hlt)
      have hor := i64_or (Sw.besK G s k) (Sw.nb G k) (lt63 hn (Sw.besK_lt hG s k)) (lt63 hn (hG.lt k))
      rcases shr_bit s k hs with ⟨h1, hb⟩ | ⟨h1, hb⟩
      · have HS : Hid (Sw.besK G s (k + 1) = Sw.besK G s k ||| Sw.nb G k) := by rw [Sw.besK_succ, if_pos h1]; rfl
        clear h1
        go_wp2
        go_round
        case rel => exact ⟨k + 1, by omega, by go_num, by rw [HS.out]⟩
        case measure => simp [intOf]; omega
      · have HS : Hid (Sw.besK G s (k + 1) = Sw.besK G s k) := by rw [Sw.besK_succ, h1]; rfl
        clear h1
        go_wp2
        go_round
        case rel => exact ⟨k + 1, by omega, by go_num, by rw [HS.out]⟩
        case measure => simp [intOf]; omega
    · have : k = G.length := by omega
      subst this
      go_wp2
      go_ret
      exact ⟨rfl, below1 _⟩
theorem implBesideSet (l : List Int) (A : Option Addr) (c : Nat) (s : Int) (hl : l.length ≤ 1099511627776) (w : World) (hr : RdI w w.heap.size A l) :
    Calls Try.prog 13 #[.agg #[.slice A l.length c], .int .i64 s] w fun e w' => e = .returned (.int .i64 (Sw.vBes l s)) ∧ Below w.heap.size w w' := by
  have hr1 := hr.at_ (below1 (.cells #[.slice A l.length c] 25))
  rcases Sw.svB_cases l s with hv | ⟨G, S, rfl, hG, rfl, hS⟩
  · have HF := Lib.hid (Sw.vBes_no hv)
    go_enter Try.func13, Try.ntmps13
    go_wp2_with fail
    refine (implSetValid l A c s hl _ hr1).mono ?_
    rintro e w1 ⟨rfl, hb⟩
    obtain ⟨hb, hc, hz⟩ := box_after hb
    go_wp2_with fail
    go_ret
    exact ⟨ret_i HF.out.symm, hb⟩
  · have hv := Sw.svB_yes hG hS
    have HF := Lib.hid (Sw.vBes_yes hG hS)
    obtain ⟨ad, rfl, hrg⟩ := RdG.of hG hr
    have hS40 := lt40 hG.le hS
    go_enter Try.func13, Try.ntmps13
    go_wp2_with fail
    refine (implSetValid (Sw.toI G) (some ad) c S hl _ hr1).mono ?_
    rintro e w1 ⟨rfl, hb⟩
    obtain ⟨hb, hc, hz⟩ := box_after hb
    rw [Sw.toI_len] at hc
    go_wp2_with fail
    refine (besideUnion G hG ad c S hS40 _ (hrg.at_ hb)).mono ?_
    rintro e w2 ⟨rfl, hb2⟩
    obtain ⟨hb, hc, hz⟩ := box_next hb hc hz hb2
    go_wp2_with fail
    go_ret
    exact ⟨ret_i HF.out.symm, hb⟩
theorem specBesideSet (l : List Int) (A : Option Addr) (c : Nat) (s : Int) (hl : l.length ≤ 1099511627776) (w : World) (hr : RdI w w.heap.size A l) :
    Calls Try.prog 41 #[.agg #[.slice A l.length c], .int .i64 s] w fun e w' => e = .returned (.int .i64 (Sw.vBes l s)) ∧ Below w.heap.size w w' := by
  have hr1 := hr.at_ (below1 (.cells #[.slice A l.length c] 25))
  rcases Sw.svB_cases l s with hv | ⟨G, S, rfl, hG, rfl, hS⟩
  · have HF := Lib.hid (Sw.vBes_no hv)
    go_enter Try.func41, Try.ntmps41
    go_wp2_with fail
    refine (specSetValid l A c s hl _ hr1).mono ?_
    rintro e w1 ⟨rfl, hb⟩
    obtain ⟨hb, hc, hz⟩ := box_after hb
    go_wp2_with fail
    go_ret
    exact ⟨ret_i HF.out.symm, hb⟩
  · have hv := Sw.svB_yes hG hS
    have HF := Lib.hid (Sw.vBes_yes hG hS)
    obtain ⟨ad, rfl, hrg⟩ := RdG.of hG hr
    have hS40 := lt40 hG.le hS
    have hn := hG.le
    go_enter Try.func41, Try.ntmps41
    go_wp2_with fail
    refine (specSetValid (Sw.toI G) (some ad) c S hl _ hr1).mono ?_
    rintro e w1 ⟨rfl, hb⟩
    obtain ⟨hb, hc, hz⟩ := box_after hb
    rw [Sw.toI_len] at hc
    go_wp2_with fail
    go_loop [5, 6] (fun a i => ∃ k : Nat, k ≤ G.length ∧ i = .int .i64 k ∧ a = .int .i64 (Sw.besK G S k : Nat)) (fun _ i => (G.length - intOf i).toNat)
    case atStart => exact ⟨0, by omega, rfl, rfl⟩
    case round =>
      obtain ⟨k, hk, rfl, rfl⟩ := hrel
      by_cases hlt : k < G.length
      · have hcell := (hrg.below hb).cell k hlt
        have hk1 := lt40 hn (Sw.besK_lt hG S k)
        have hk2 := lt40 hn (hG.lt k)
        by_cases hbit : S.testBit k
        · have HS : Hid (Sw.besK G S (k + 1) = Sw.besK G S k ||| Sw.nb G k) := by rw [Sw.besK_succ, if_pos hbit]; rfl
          have HB := Lib.hid (Sw.bit_one.2 hbit)
          clear hbit
          go_wp2_with fail
          refine (l1Bit S k hS40 (by omega) _).mono ?_
          rw [HB.out]
          rintro e w2 ⟨rfl, rfl⟩
          go_wp2_with fail
          refine (l1Either (Sw.besK G S k) (Sw.nb G k) hk1 hk2 _).mono ?_
          rintro e w2 ⟨rfl, rfl⟩
          go_wp2_with fail
          go_round
          case rel => exact ⟨k + 1, by omega, by go_num, by rw [HS.out]⟩
          case measure => simp [intOf]; omega
        · have HS : Hid (Sw.besK G S (k + 1) = Sw.besK G S k) := by rw [Sw.besK_succ, if_neg hbit]; rfl
          have HB := Lib.hid (Sw.bit_zero.2 (Bool.not_eq_true _ ▸ hbit))
          clear hbit
          go_wp2_with fail
          refine (l1Bit S k hS40 (by omega) _).mono ?_
          rw [HB.out]
          rintro e w2 ⟨rfl, rfl⟩
          go_wp2_with fail
          go_round
          case rel => exact ⟨k + 1, by omega, by go_num, by rw [HS.out]⟩
          case measure => simp [intOf]; omega
      · have : k = G.length := by omega
        subst this
        go_wp2_with fail
        go_ret
        exact ⟨ret_i HF.out.symm, hb⟩
end Go.Proofs.Ytlfigdpgdkbknaa

