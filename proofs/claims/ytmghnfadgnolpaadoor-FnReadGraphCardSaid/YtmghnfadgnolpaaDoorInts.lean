/- The functions of the program and of the reference that reckon with plain ints, each by its contract: counts of bits, one bit, and, or, other. Conditions: sets below 2^40, places at most 63. -/
import Derived.Test.YtmghnfadgnolpaaDoorBase
namespace Go.Proofs.YtmghnfadgnolpaaDoor
open Go.RowKit
theorem ret_i {a b : Int} (h : a = b) : Ending.returned (.int .i64 a) = .returned (.int .i64 b) := by rw [h]
theorem ret_b {a b : Bool} (h : a = b) : Ending.returned (.bool a) = .returned (.bool b) := by rw [h]
theorem val_i {a b : Int} (h : a = b) : Value.int .i64 a = .int .i64 b := by rw [h]
theorem countBits (s : Nat) (hs : s < 1099511627776) (w : World) :
    Calls Tryd.prog 37 #[.int .i64 s] w fun e w' => e = .returned (.int .i64 (Sw.cnt s : Nat)) ∧ w = w' := by
  go_enter Tryd.func37, Tryd.ntmps37
  go_wp2
  go_loop [0, 3] (fun a m => ∃ t : Nat, t ≤ s ∧ a = .int .i64 t ∧ ∃ c : Nat, m = .int .i64 c ∧ c + Sw.cnt t = Sw.cnt s) (fun a _ => (intOf a).toNat)
  case atStart => exact ⟨s, Nat.le_refl _, rfl, 0, rfl, by omega⟩
  case round =>
    obtain ⟨t, ht, rfl, c, rfl, hc⟩ := hrel
    have hle := Sw.cnt_le (s := s) (n := 62) (by omega) (by omega)
    by_cases h0 : t = 0
    · subst h0
      go_wp2
      go_ret
      exact ⟨ret_i (by rw [Sw.cnt_zero] at hc; omega), rfl⟩
    · have hb := i64_and t (t - 1) (by omega) (by omega)
      rw [show ((t - 1 : Nat) : Int) = (t : Int) - 1 by omega] at hb
      have hcs := Sw.cnt_strike (s := t) (by omega) h0
      have hlt := Sw.and_le_r t (t - 1)
      have h1 : 1 ≤ t := by omega
      clear h0
      go_wp2
      go_round
      case rel => exact ⟨t &&& (t - 1), by omega, rfl, c + 1, by go_num, by omega⟩
      case measure => simp [intOf]; omega
theorem l1In (n lo hi : Int) (w : World) :
    Calls Tryd.prog 29 #[.int .i64 n, .int .i64 lo, .int .i64 hi] w fun e w' => e = .returned (.bool (decide (lo ≤ n ∧ n ≤ hi))) ∧ w = w' := by
  by_cases h1 : lo ≤ n <;> by_cases h2 : n ≤ hi
  all_goals
    go_enter Tryd.func29, Tryd.ntmps29
    go_wp2
    go_ret
    exact ⟨ret_b (by simp [h1, h2]), rfl⟩
theorem l1In_yes (n lo hi : Int) (w : World) (h1 : lo ≤ n) (h2 : n ≤ hi) :
    Calls Tryd.prog 29 #[.int .i64 n, .int .i64 lo, .int .i64 hi] w fun e w' => e = .returned (.bool true) ∧ w = w' :=
  (l1In n lo hi w).mono fun _ _ ⟨h, hw⟩ => ⟨by rw [h]; simp [h1, h2], hw⟩
theorem l1In_no (n lo hi : Int) (w : World) (h : n < lo ∨ hi < n) :
    Calls Tryd.prog 29 #[.int .i64 n, .int .i64 lo, .int .i64 hi] w fun e w' => e = .returned (.bool false) ∧ w = w' :=
  (l1In n lo hi w).mono fun _ _ ⟨h', hw⟩ => ⟨by rw [h']; apply ret_b; rw [decide_eq_false_iff_not]; omega, hw⟩
theorem l1Bit (s k : Nat) (_hs : s < 1099511627776) (hk : k ≤ 63) (w : World) :
    Calls Tryd.prog 22 #[.int .i64 s, .int .i64 k] w fun e w' => e = .returned (.int .i64 (Sw.bit s k : Nat)) ∧ w = w' := by
  have h0 := shr_nonneg s k
  go_enter Tryd.func22, Tryd.ntmps22
  go_wp2
  go_ret
  exact ⟨ret_i (by simp [Sw.bit]), rfl⟩
theorem l1BitI (x : Int) (k : Nat) (h0 : 0 ≤ x) (h1 : x < 1099511627776) (hk : k ≤ 63) (w : World) :
    Calls Tryd.prog 22 #[.int .i64 x, .int .i64 k] w fun e w' => e = .returned (.int .i64 (Sw.ibit x k)) ∧ w = w' := by
  obtain ⟨n, rfl⟩ := Int.eq_ofNat_of_zero_le h0
  rw [Sw.ibit_nat]
  exact l1Bit n k (by omega) hk w
theorem l1Bit1 (x : Int) (k : Nat) (h0 : 0 ≤ x) (h1 : x < 1099511627776) (hk : k ≤ 63) (h : Sw.ibit x k = 1) (w : World) :
    Calls Tryd.prog 22 #[.int .i64 x, .int .i64 k] w fun e w' => e = .returned (.int .i64 1) ∧ w = w' := by
  rw [← h]; exact l1BitI x k h0 h1 hk w
theorem l1Bit0 (x : Int) (k : Nat) (h0 : 0 ≤ x) (h1 : x < 1099511627776) (hk : k ≤ 63) (h : Sw.ibit x k = 0) (w : World) :
    Calls Tryd.prog 22 #[.int .i64 x, .int .i64 k] w fun e w' => e = .returned (.int .i64 0) ∧ w = w' := by
  rw [← h]; exact l1BitI x k h0 h1 hk w
theorem pow_le40 {k : Nat} (h : k ≤ 40) : (2 : Int) ^ k ≤ 1099511627776 := by
  have h1 : 2 ^ k ≤ 2 ^ 40 := Nat.pow_le_pow_right (by decide) h
  have h2 : ((2 ^ k : Nat) : Int) ≤ ((2 ^ 40 : Nat) : Int) := by omega
  simpa using h2
theorem pow_pos' (k : Nat) : 1 ≤ (2 : Int) ^ k := by
  have h1 := Nat.two_pow_pos k
  have h2 : (1 : Int) ≤ ((2 ^ k : Nat) : Int) := by omega
  simpa using h2
theorem pow_nat (k : Nat) : (2 : Int) ^ k = ((2 ^ k : Nat) : Int) := by simp
theorem l1Both (a b : Nat) (ha : a < 1099511627776) (hb : b < 1099511627776) (w : World) :
    Calls Tryd.prog 41 #[.int .i64 a, .int .i64 b] w fun e w' => e = .returned (.int .i64 ((a &&& b : Nat) : Int)) ∧ w = w' := by
  go_enter Tryd.func41, Tryd.ntmps41
  go_wp2
  go_loop [5, 6] (fun o i => ∃ k : Nat, k ≤ 40 ∧ i = .int .i64 k ∧ ∃ m : Nat, m ≤ a ∧ m = (a &&& b) % 2 ^ k ∧ o = .int .i64 m) (fun _ i => (64 - intOf i).toNat)
  case atStart => exact ⟨0, by omega, rfl, 0, by omega, by rw [Nat.pow_zero, Nat.mod_one], rfl⟩
  case round =>
    obtain ⟨k, hk, rfl, m, hma, hm, rfl⟩ := hrel
    have hp := pow_le40 hk
    have hp1 := pow_pos' k
    have hlt : (a : Int) < 2 ^ k ∨ (b : Int) < 2 ^ k → (a &&& b) = m := by
      intro h
      rw [pow_nat] at h
      have h2 : (a &&& b) < 2 ^ k := by
        rcases h with h | h
        · have := Sw.and_le_l a b; omega
        · have := Sw.and_le_r a b; omega
      rw [hm, Nat.mod_eq_of_lt h2]
    have HM := Lib.hid hm
    clear hm
    by_cases h1 : (2 : Int) ^ k ≤ a
    · by_cases h2 : (2 : Int) ^ k ≤ b
      · clear hlt
        have hk1 : k + 1 ≤ 40 := by
          rcases Nat.lt_or_ge k 40 with q | q
          · omega
          · have : k = 40 := by omega
            subst this
            omega
        have HS := Lib.hid (Sw.and_mod_succ a b k)
        have hle : (a &&& b) % 2 ^ (k + 1) ≤ a := Nat.le_trans (Nat.mod_le _ _) (Sw.and_le_l a b)
        have HL := Lib.hid hle
        clear hle
        have b1 : Sw.bit a k = 0 ∨ Sw.bit a k = 1 := by have := Sw.bit_lt a k; omega
        have b2 : Sw.bit b k = 0 ∨ Sw.bit b k = 1 := by have := Sw.bit_lt b k; omega
        rcases b1 with b1 | b1 <;> rcases b2 with b2 | b2
        all_goals
          have HE : Hid ((a &&& b) % 2 ^ (k + 1) = m + (Sw.bit a k * Sw.bit b k) * 2 ^ k) := by have h1 := HS.out; rw [HM.out]; exact h1
          rw [b1, b2] at HE
          have B1 := Lib.hid b1
          have B2 := Lib.hid b2
          clear b1 b2
          have hms : m + 2 ^ k ≤ 2199023255552 := by
            have := Nat.pow_le_pow_right (n := 2) (by decide) hk
            omega
          go_wp2_with fail
          refine (l1Bit a k ha (by omega) _).mono ?_
          rw [B1.out]
          rintro e w' ⟨rfl, rfl⟩
          go_wp2_with fail
          refine (l1Bit b k hb (by omega) _).mono ?_
          rw [B2.out]
          rintro e w' ⟨rfl, rfl⟩
          go_wp2_with fail
          go_round
          case rel => exact ⟨k + 1, hk1, by go_num, (a &&& b) % 2 ^ (k + 1), HL.out, rfl, val_i (by have := HE.out; simp at this; rw [this]; try simp)⟩
          case measure => simp [intOf]; omega
      · have HE := Lib.hid (hlt (.inr (by omega)))
        clear hlt
        go_wp2_with fail
        go_ret
        exact ⟨ret_i (by rw [HE.out]), rfl⟩
    · have HE := Lib.hid (hlt (.inl (by omega)))
      clear hlt
      go_wp2_with fail
      go_ret
      exact ⟨ret_i (by rw [HE.out]), rfl⟩
theorem l1Other (a b : Nat) (ha : a < 1099511627776) (hb : b < 1099511627776) (w : World) :
    Calls Tryd.prog 38 #[.int .i64 a, .int .i64 b] w fun e w' => e = .returned (.int .i64 ((a ^^^ b : Nat) : Int)) ∧ w = w' := by
  have h1 := Sw.add_and_xor a b
  have h2 := Sw.and_le_l a b
  have H1 := Lib.hid h1
  clear h1
  go_enter Tryd.func38, Tryd.ntmps38
  go_wp2_with fail
  refine (l1Both a b ha hb _).mono ?_
  rintro e w' ⟨rfl, rfl⟩
  go_wp2_with fail
  go_ret
  exact ⟨ret_i (by have := H1.out; omega), rfl⟩
end Go.Proofs.YtmghnfadgnolpaaDoor

