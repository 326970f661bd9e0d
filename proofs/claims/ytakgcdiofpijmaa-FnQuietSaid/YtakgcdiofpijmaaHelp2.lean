/- The helpers of the laws: bits, both, other, sameInts, sameGraph, alive, each by its contract. Conditions: sets below 2^40. -/
import Derived.Test.YtakgcdiofpijmaaGrid
import Derived.Test.YtakgcdiofpijmaaCount
import Derived.Test.YtakgcdiofpijmaaMath11
import Derived.Deep.QuietTactic
import Derived.BigQuiet
namespace Go.Proofs.Ytakgcdiofpijmaa
open Go.RowKit
theorem bits_of (n : Nat) : ∀ k, k ≤ 40 → Sw.lp (fun k x => x + Sw.bit n k) 0 k ≤ k
  | 0, _ => Nat.le_refl _
  | k + 1, h => by
    have := bits_of n k (by omega)
    have := Sw.bit_lt n k
    rw [Sw.lp_succ]; omega
theorem bits (n : Nat) (hn : n < 1099511627776) (w : World) :
    Calls Try.prog 39 #[.int .i64 n] w fun e w' => e = .returned (.int .i64 (Sw.cnt n : Nat)) ∧ w = w' := by
  have hn40 : n < 2 ^ 40 := by omega
  have HV := Lib.hid (Sw.cnt_sum hn40 (by decide))
  go_enter Try.func39, Try.ntmps39
  go_wp2_with fail
  go_loop [3, 4] (fun s i => ∃ k : Nat, k ≤ 40 ∧ i = .int .i64 k ∧ s = .int .i64 (Sw.lp (fun k x => x + Sw.bit n k) 0 k : Nat)) (fun _ i => (40 - intOf i).toNat)
  case atStart => exact ⟨0, by omega, rfl, rfl⟩
  case round =>
    obtain ⟨k, hk, rfl, rfl⟩ := hrel
    have hle := bits_of n k hk
    have HS := Lib.hid (Sw.lp_succ (fun k x => x + Sw.bit n k) 0 k)
    obtain ⟨S, hS⟩ : ∃ S, S = Sw.lp (fun k x => x + Sw.bit n k) 0 k := ⟨_, rfl⟩
    rw [← hS] at hle HS ⊢
    have HSS := Lib.hid hS
    clear hS
    by_cases hlt : k < 40
    · have h0 := shr_nonneg n k
      have hb : (n : Int) / 2 ^ k % 2 = ((Sw.bit n k : Nat) : Int) := by rw [shr_nat]; unfold Sw.bit; omega
      have hb2 := Sw.bit_lt n k
      obtain ⟨B, hB⟩ : ∃ B, B = Sw.bit n k := ⟨_, rfl⟩
      rw [← hB] at hb hb2
      have HB := Lib.hid hB
      clear hB
      have hB2 : B = 0 ∨ B = 1 := by omega
      rcases hB2 with rfl | rfl
      · go_wp2_with fail
        go_round
        case rel => exact ⟨k + 1, by omega, by go_num, by rw [HS.out, ← HB.out]; rfl⟩
        case measure => simp [intOf]; omega
      · go_wp2_with fail
        go_round
        case rel => exact ⟨k + 1, by omega, by go_num, by rw [HS.out, ← HB.out]; go_num⟩
        case measure => simp [intOf]; omega
    · have hk40 : k = 40 := by omega
      subst hk40
      go_wp2_with fail
      go_ret
      exact ⟨ret_i (by rw [HV.out, HSS.out]), rfl⟩
theorem both (a b : Nat) (ha : a < 1099511627776) (hb : b < 1099511627776) (w : World) :
    Calls Try.prog 40 #[.int .i64 a, .int .i64 b] w fun e w' => e = .returned (.int .i64 ((a &&& b : Nat) : Int)) ∧ w = w' := by
  have hx : a &&& b < 2 ^ 40 := Nat.and_lt_two_pow _ (by omega)
  have hle0 := Sw.and_le_l a b
  go_enter Try.func40, Try.ntmps40
  go_wp2_with fail
  go_loop [5, 6] (fun s i => ∃ k : Nat, k ≤ 40 ∧ i = .int .i64 k ∧ ∃ m : Nat, m = (a &&& b) % 2 ^ k ∧ s = .int .i64 m) (fun _ i => (40 - intOf i).toNat)
  case atStart => exact ⟨0, by omega, rfl, 0, by rw [Nat.pow_zero, Nat.mod_one], rfl⟩
  case round =>
    obtain ⟨k, hk, rfl, m, hm, rfl⟩ := hrel
    have hmle : m ≤ a := by rw [hm]; exact Nat.le_trans (Nat.mod_le _ _) hle0
    have HM := Lib.hid hm
    clear hm
    by_cases hlt : k < 40
    · have hp := pow_le40 hk
      have hp1 := pow_pos' k
      have h0a := shr_nonneg a k
      have h0b := shr_nonneg b k
      have hba : (a : Int) / 2 ^ k % 2 = ((Sw.bit a k : Nat) : Int) := by rw [shr_nat]; unfold Sw.bit; omega
      have hbb : (b : Int) / 2 ^ k % 2 = ((Sw.bit b k : Nat) : Int) := by rw [shr_nat]; unfold Sw.bit; omega
      have HS := Lib.hid (Sw.and_mod_succ a b k)
      have b1 : Sw.bit a k = 0 ∨ Sw.bit a k = 1 := by have := Sw.bit_lt a k; omega
      have b2 : Sw.bit b k = 0 ∨ Sw.bit b k = 1 := by have := Sw.bit_lt b k; omega
      have hw1 : IntKind.i64.wrap ((2 : Int) ^ k) = 2 ^ k := IntWalk.i64_in _ (by omega)
      rcases b1 with b1 | b1 <;> rcases b2 with b2 | b2
      all_goals
        rw [b1] at hba
        rw [b2] at hbb
        have HE : Hid ((a &&& b) % 2 ^ (k + 1) = m + (Sw.bit a k * Sw.bit b k) * 2 ^ k) := by have h1 := HS.out; rw [HM.out]; exact h1
        rw [b1, b2] at HE
        clear b1 b2
        go_wp2_with fail
        go_round
        case rel => exact ⟨k + 1, by omega, by go_num, _, rfl, val_i (by have := HE.out; simp at this; rw [this]; try simp)⟩
        case measure => simp [intOf]; omega
    · have hk40 : k = 40 := by omega
      have HE : Hid (m = a &&& b) := by show _ = _; rw [HM.out, hk40, Nat.mod_eq_of_lt hx]
      clear hk40
      go_wp2_with fail
      go_ret
      exact ⟨ret_i (by rw [HE.out]), rfl⟩
theorem other (a b : Nat) (ha : a < 1099511627776) (hb : b < 1099511627776) (w : World) :
    Calls Try.prog 34 #[.int .i64 a, .int .i64 b] w fun e w' => e = .returned (.int .i64 ((a ^^^ b : Nat) : Int)) ∧ w = w' := by
  have h1 := Sw.add_and_xor a b
  have h2 := Sw.and_le_l a b
  have H1 := Lib.hid h1
  clear h1
  go_enter Try.func34, Try.ntmps34
  go_wp2_with fail
  refine (both a b ha hb _).mono ?_
  rintro e w' ⟨rfl, rfl⟩
  go_wp2_with fail
  go_ret
  exact ⟨ret_i (by have := H1.out; omega), rfl⟩
theorem sameInts (l : List Int) (A B : Option Addr) (c d : Nat) (hl : l.length ≤ 1048576) (w : World) (h1 : RdI w w.heap.size A l) (h2 : RdI w w.heap.size B l) :
    Calls Try.prog 24 #[.slice A l.length c, .slice B l.length d] w fun e w' => e = .returned (.bool true) ∧ ∃ n, w' = w.drewN n := by
  go_enter Try.func24, Try.ntmps24
  go_wp2_with fail
  go_loopw [5] (fun i wr => ∃ k : Nat, k ≤ l.length ∧ i = .int .i64 k ∧ ∃ n, wr = w.drewN n) (fun i _ => (l.length - intOf i).toNat)
  case atStart => exact ⟨0, by omega, rfl, 0, rfl⟩
  case round =>
    obtain ⟨k, hk, rfl, n, rfl⟩ := hrel
    by_cases hlt : k < l.length
    · obtain ⟨ad, rfl, hb1, hc1⟩ := h1 k hlt
      obtain ⟨bd, rfl, hb2, hc2⟩ := h2 k hlt
      go_wp2
      go_quiet (fail)
      go_wp2
      go_roundw
      case rel => exact ⟨k + 1, by omega, by go_num, _, rfl⟩
      case measure => simp [intOf]; omega
    · have : k = l.length := by omega
      subst this
      go_wp2
      go_ret
      exact ⟨rfl, n, rfl⟩
theorem sameGraph (l : List Int) (A B : Option Addr) (c d : Nat) (hl : l.length ≤ 1048576) (w : World) (h1 : RdI w w.heap.size A l) (h2 : RdI w w.heap.size B l) :
    Calls Try.prog 11 #[.agg #[.slice A l.length c], .agg #[.slice B l.length d]] w fun e w' => e = .returned (.bool true) ∧ Below w.heap.size w w' := by
  have hb2 := below2 (w := w) (.cells #[.slice A l.length c] 27) (.cells #[.slice B l.length d] 27)
  go_enter Try.func11, Try.ntmps11
  go_wp2_with fail
  refine (sameInts l A B c d hl _ (h1.at_ hb2) (h2.at_ hb2)).mono ?_
  rintro e w' ⟨rfl, n, rfl⟩
  go_wp2_with fail
  go_ret
  exact ⟨rfl, bdr hb2 n⟩
theorem four : Sw.vLines (Sw.vGrid 2 2) = 4 := by
  have hG : Sw.GVN (Sw.tab (2 * 2) (Sw.gridF 2 2)) := by
    have h : Sw.gchk0 (Sw.tab (2 * 2) (Sw.gridF 2 2)) = true := by decide +kernel
    exact Sw.gchk0_valid h
  have e : Sw.vGrid 2 2 = Sw.toI (Sw.tab (2 * 2) (Sw.gridF 2 2)) := Sw.vGrid_yes (a := 2) (b := 2) (by decide) (by decide) (by decide)
  rw [e, Sw.vLines_yes hG]
  decide +kernel
theorem alive (w : World) :
    Calls Try.prog 13 #[] w fun e w' => e = .returned (.bool true) ∧ Below w.heap.size w w' := by
  have hlen := Sw.vGrid_len 2 2
  have H4 := Lib.hid four
  obtain ⟨L, hL⟩ : ∃ L, L = Sw.vGrid 2 2 := ⟨_, rfl⟩
  have hC := fun W => implGridOf 2 2 W
  rw [← hL] at hlen H4 hC
  clear hL
  go_enter Try.func13, Try.ntmps13
  go_wp2_with fail
  refine (hC _).mono ?_
  rintro e w1 ⟨v, rfl, hO, hb⟩
  obtain ⟨A, c, rfl, hr⟩ := hO.rd
  go_wp2_with fail
  refine (implLinesMany L A c (by omega) _ hr).mono ?_
  rw [H4.out]
  rintro e w2 ⟨rfl, hb2⟩
  go_wp2_with fail
  go_ret
  exact ⟨rfl, hb.trans (hb2.mono hb.size)⟩
end Go.Proofs.Ytakgcdiofpijmaa

