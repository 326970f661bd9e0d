/- The helpers of the laws: bits, both, other, sameInts, sameGraph, alive, each by its contract. Conditions: sets below 2^40. -/
import Derived.Test.YtooohgjmomhjoaaGrid
import Derived.Test.YtooohgjmomhjoaaCount
import Derived.Test.YtooohgjmomhjoaaMath11
import Derived.Deep.QuietTactic
import Derived.BigQuiet
namespace Go.Proofs.Ytooohgjmomhjoaa
open Go.RowKit
theorem bits_of (n : Nat) : ∀ k, k ≤ 40 → Sw.lp (fun k x => x + Sw.bit n k) 0 k ≤ k
  | 0, _ => Nat.le_refl _
  | k + 1, h => by
    have := bits_of n k (by omega)
    have := Sw.bit_lt n k
    rw [Sw.lp_succ]; omega
theorem both (a b : Nat) (ha : a < 1099511627776) (hb : b < 1099511627776) (w : World) :
    Calls Try.prog 30 #[.int .i64 a, .int .i64 b] w fun e w' => e = .returned (.int .i64 ((a &&& b : Nat) : Int)) ∧ w = w' := by
  have hx : a &&& b < 2 ^ 40 := Nat.and_lt_two_pow _ (by omega)
  have hle0 := Sw.and_le_l a b
  go_enter Try.func30, Try.ntmps30
  go_wp2_with fail
  go_loop [5, 6] (fun s i => ∃ k : Nat, k ≤ 40 ∧ i = .int .i64 k ∧ ∃ m : Nat, m = (a &&& b) % 2 ^ k ∧ s = .int .i64 m) (fun _ i => (40 - intOf i).toNat)
  case atStart => exact ⟨0, by omega, rfl, 0, by rw [Nat.pow_zero, Nat.mod_one], rfl⟩
  case round =>
    obtain ⟨k, hk, rfl, m, hm, rfl⟩ := hrel
    have hmle : m ≤ a := by rw [hm]; exact Nat.le_trans (Nat.mod_le _ _) hle0
    have HM := Lib.hid hm
    clear hm
    by_cases hlt : k < 40
    · have hp := pow_le40 hk
      have hp1 := pow_pos' k
      have h0a := shr_nonneg a k
      have h0b := shr_nonneg b k
      have hba : (a : Int) / 2 ^ k % 2 = ((Sw.bit a k : Nat) : Int) := by rw [shr_nat]; unfold Sw.bit; omega
      have hbb : (b : Int) / 2 ^ k % 2 = ((Sw.bit b k : Nat) : Int) := by rw [shr_nat]; unfold Sw.bit; omega
      have HS := Lib.hid (Sw.and_mod_succ a b k)
      have b1 : Sw.bit a k = 0 ∨ Sw.bit a k = 1 := by have := Sw.bit_lt a k; omega
      have b2 : Sw.bit b k = 0 ∨ Sw.bit b k = 1 := by have := Sw.bit_lt b k; omega
      have hw1 : IntKind.i64.wrap ((2 : Int) ^ k) = 2 ^ k := IntWalk.i64_in _ (by omega)
      rcases b1 with b1 | b1 <;> rcases b2 with b2 | b2
      all_goals
        rw [b1] at hba
        rw [b2] at hbb
        have HE : Hid ((a &&& b) % 2 ^ (k + 1) = m + (Sw.bit a k * Sw.bit b k) * 2 ^ k) := by have h1 := HS.out; rw [HM.out]; exact h1
        rw [b1, b2] at HE
        clear b1 b2
        go_wp2_with fail
        go_round
        case rel => exact ⟨k + 1, by omega, by go_num, _, rfl, val_i (by have := HE.out; simp at this; rw [this]; try simp)⟩
        case measure => simp [intOf]; omega
    · have hk40 : k = 40 := by omega
      have HE : Hid (m = a &&& b) := by show _ = _; rw [HM.out, hk40, Nat.mod_eq_of_lt hx]
      clear hk40
      go_wp2_with fail
      go_ret
      exact ⟨ret_i (by rw [HE.out]), rfl⟩
theorem other (a b : Nat) (ha : a < 1099511627776) (hb : b < 1099511627776) (w : World) :
    Calls Try.prog 10 #[.int .i64 a, .int .i64 b] w fun e w' => e = .returned (.int .i64 ((a ^^^ b : Nat) : Int)) ∧ w = w' := by
  have h1 := Sw.add_and_xor a b
  have h2 := Sw.and_le_l a b
  have H1 := Lib.hid h1
  clear h1
  go_enter Try.func10, Try.ntmps10
  go_wp2_with fail
  refine (both a b ha hb _).mono ?_
  rintro e w' ⟨rfl, rfl⟩
  go_wp2_with fail
  go_ret
  exact ⟨ret_i (by have := H1.out; omega), rfl⟩
theorem four : Sw.vLines (Sw.vGrid 2 2) = 4 := by
  have hG : Sw.GVN (Sw.tab (2 * 2) (Sw.gridF 2 2)) := by
    have h : Sw.gchk0 (Sw.tab (2 * 2) (Sw.gridF 2 2)) = true := by decide +kernel
    exact Sw.gchk0_valid h
  have e : Sw.vGrid 2 2 = Sw.toI (Sw.tab (2 * 2) (Sw.gridF 2 2)) := Sw.vGrid_yes (a := 2) (b := 2) (by decide) (by decide) (by decide)
  rw [e, Sw.vLines_yes hG]
  decide +kernel
theorem alive (w : World) :
    Calls Try.prog 9 #[] w fun e w' => e = .returned (.bool true) ∧ Below w.heap.size w w' := by
  have hlen := Sw.vGrid_len 2 2
  have H4 := Lib.hid four
  obtain ⟨L, hL⟩ : ∃ L, L = Sw.vGrid 2 2 := ⟨_, rfl⟩
  have hC := fun W => implGridOf 2 2 W
  rw [← hL] at hlen H4 hC
  clear hL
  go_enter Try.func9, Try.ntmps9
  go_wp2_with fail
  refine (hC _).mono ?_
  rintro e w1 ⟨v, rfl, hO, hb⟩
  obtain ⟨A, c, rfl, hr⟩ := hO.rd
  go_wp2_with fail
  refine (implLinesMany L A c (by omega) _ hr).mono ?_
  rw [H4.out]
  rintro e w2 ⟨rfl, hb2⟩
  go_wp2_with fail
  go_ret
  exact ⟨rfl, hb.trans (hb2.mono hb.size)⟩
end Go.Proofs.Ytooohgjmomhjoaa

