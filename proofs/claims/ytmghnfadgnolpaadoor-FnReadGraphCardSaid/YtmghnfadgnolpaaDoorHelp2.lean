/- The helpers of the laws: bits, both, other, sameInts, sameGraph, alive, each by its contract. Conditions: sets below 2^40. -/
import Derived.Test.YtmghnfadgnolpaaDoorGrid
import Derived.Test.YtmghnfadgnolpaaDoorCount
import Derived.Test.YtmghnfadgnolpaaDoorMath11
import Derived.Deep.QuietTactic
import Derived.BigQuiet
namespace Go.Proofs.YtmghnfadgnolpaaDoor
open Go.RowKit
theorem bits_of (n : Nat) : ∀ k, k ≤ 40 → Sw.lp (fun k x => x + Sw.bit n k) 0 k ≤ k
  | 0, _ => Nat.le_refl _
  | k + 1, h => by
    have := bits_of n k (by omega)
    have := Sw.bit_lt n k
    rw [Sw.lp_succ]; omega
theorem sameInts (l : List Int) (A B : Option Addr) (c d : Nat) (hl : l.length ≤ 1048576) (w : World) (h1 : RdI w w.heap.size A l) (h2 : RdI w w.heap.size B l) :
    Calls Tryd.prog 26 #[.slice A l.length c, .slice B l.length d] w fun e w' => e = .returned (.bool true) ∧ ∃ n, w' = w.drewN n := by
  go_enter Tryd.func26, Tryd.ntmps26
  go_wp2_with fail
  go_loopw [5] (fun i wr => ∃ k : Nat, k ≤ l.length ∧ i = .int .i64 k ∧ ∃ n, wr = w.drewN n) (fun i _ => (l.length - intOf i).toNat)
  case atStart => exact ⟨0, by omega, rfl, 0, rfl⟩
  case round =>
    obtain ⟨k, hk, rfl, n, rfl⟩ := hrel
    by_cases hlt : k < l.length
    · obtain ⟨ad, rfl, hb1, hc1⟩ := h1 k hlt
      obtain ⟨bd, rfl, hb2, hc2⟩ := h2 k hlt
      go_wp2
      go_quiet (fail)
      go_wp2
      go_roundw
      case rel => exact ⟨k + 1, by omega, by go_num, _, rfl⟩
      case measure => simp [intOf]; omega
    · have : k = l.length := by omega
      subst this
      go_wp2
      go_ret
      exact ⟨rfl, n, rfl⟩
theorem sameGraph (l : List Int) (A B : Option Addr) (c d : Nat) (hl : l.length ≤ 1048576) (w : World) (h1 : RdI w w.heap.size A l) (h2 : RdI w w.heap.size B l) :
    Calls Tryd.prog 11 #[.agg #[.slice A l.length c], .agg #[.slice B l.length d]] w fun e w' => e = .returned (.bool true) ∧ Below w.heap.size w w' := by
  have hb2 := below2 (w := w) (.cells #[.slice A l.length c] 25) (.cells #[.slice B l.length d] 25)
  go_enter Tryd.func11, Tryd.ntmps11
  go_wp2_with fail
  refine (sameInts l A B c d hl _ (h1.at_ hb2) (h2.at_ hb2)).mono ?_
  rintro e w' ⟨rfl, n, rfl⟩
  go_wp2_with fail
  go_ret
  exact ⟨rfl, bdr hb2 n⟩
theorem four : Sw.vLines (Sw.vGrid 2 2) = 4 := by
  have hG : Sw.GVN (Sw.tab (2 * 2) (Sw.gridF 2 2)) := by
    have h : Sw.gchk0 (Sw.tab (2 * 2) (Sw.gridF 2 2)) = true := by decide +kernel
    exact Sw.gchk0_valid h
  have e : Sw.vGrid 2 2 = Sw.toI (Sw.tab (2 * 2) (Sw.gridF 2 2)) := Sw.vGrid_yes (a := 2) (b := 2) (by decide) (by decide) (by decide)
  rw [e, Sw.vLines_yes hG]
  decide +kernel
theorem alive (w : World) :
    Calls Tryd.prog 9 #[] w fun e w' => e = .returned (.bool true) ∧ Below w.heap.size w w' := by
  have hlen := Sw.vGrid_len 2 2
  have H4 := Lib.hid four
  obtain ⟨L, hL⟩ : ∃ L, L = Sw.vGrid 2 2 := ⟨_, rfl⟩
  have hC := fun W => implGridOf 2 2 W
  rw [← hL] at hlen H4 hC
  clear hL
  go_enter Tryd.func9, Tryd.ntmps9
  go_wp2_with fail
  refine (hC _).mono ?_
  rintro e w1 ⟨v, rfl, hO, hb⟩
  obtain ⟨A, c, rfl, hr⟩ := hO.rd
  go_wp2_with fail
  refine (implLinesMany L A c (by omega) _ hr).mono ?_
  rw [H4.out]
  rintro e w2 ⟨rfl, hb2⟩
  go_wp2_with fail
  go_ret
  exact ⟨rfl, hb.trans (hb2.mono hb.size)⟩
end Go.Proofs.YtmghnfadgnolpaaDoor

