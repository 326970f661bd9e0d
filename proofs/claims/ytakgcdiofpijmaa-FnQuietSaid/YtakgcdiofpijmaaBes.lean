/- BesideSet of the program and of the reference, and what they call, each by its contract. No conditions but that sets are below 2^40. -/
import Derived.Test.YtakgcdiofpijmaaSv
namespace Go.Proofs.Ytakgcdiofpijmaa
open Go.RowKit
theorem besideUnion (G : List Nat) (hG : Sw.GVN G) (ad : Addr) (c s : Nat) (hs : s < 1099511627776) (w : World) (hr : RdG w w.heap.size ad G) :
    Calls Try.prog 45 #[.agg #[.slice (some ad) G.length c], .int .i64 s] w fun e w' => e = .returned (.int .i64 (Sw.bes G s : Nat)) ∧ Below w.heap.size w w' := by
  have hn := hG.le
  go_enter Try.func45, Try.ntmps45
  go_wp2
  go_loop [5, 11] (fun a i => ∃ k : Nat, k ≤ G.length ∧ i = .int .i64 k ∧ a = .int .i64 (Sw.besK G s k : Nat)) (fun _ i => (G.length - intOf i).toNat)
  case atStart => exact ⟨0, by omega, rfl, rfl⟩
  case round =>
    obtain ⟨k, hk, rfl, rfl⟩ := hrel
    by_cases hlt : k < G.length
    · have hc := ((hr.below (below1 (.cells #[.slice (some ad) G.length c] 27))).cell k hlt)
      have hor := i64_or (Sw.besK G s k) (Sw.nb G k) (lt63 hn (Sw.besK_lt hG s k)) (lt63 hn (hG.lt k))
      rcases shr_bit s k hs with ⟨h1, hb⟩ | ⟨h1, hb⟩
      · have HS : Hid (Sw.besK G s (k + 1) = Sw.besK G s k ||| Sw.nb G k) := by rw [Sw.besK_succ, if_pos h1]; rfl
        clear h1
        go_wp2
        go_round
        case rel => exact ⟨k + 1, by omega, by go_num, by rw [HS.out]⟩
        case measure => simp [intOf]; omega
      · have HS : Hid (Sw.besK G s (k + 1) = Sw.besK G s k) := by rw [Sw.besK_succ, h1]; rfl
        clear h1
        go_wp2
        go_round
        case rel => exact ⟨k + 1, by omega, by go_num, by rw [HS.out]⟩
        case measure => simp [intOf]; omega
    · have : k = G.length := by omega
      subst this
      go_wp2
      go_ret
      exact ⟨rfl, below1 _⟩
end Go.Proofs.Ytakgcdiofpijmaa

