/- A check of a graph. No program in sight. No conditions. -/
import Derived.Test.YtmghnfadgnolpaaDoorMath
namespace Go.Proofs.YtmghnfadgnolpaaDoor.Sw
/-! ### a check of a graph -/
def gchk0 (G : List Nat) : Bool := decide (1 ≤ G.length) && decide (G.length ≤ 9) && (List.range G.length).all fun k => decide (nb G k < 2 ^ G.length) && !(nb G k).testBit k && (List.range G.length).all fun j => (nb G k).testBit j == (nb G j).testBit k
theorem gchk0_valid {G : List Nat} (h : gchk0 G = true) : GVN G := by
  unfold gchk0 at h
  simp only [Bool.and_eq_true, decide_eq_true_eq, List.all_eq_true, List.mem_range, Bool.not_eq_true', beq_iff_eq] at h
  obtain ⟨⟨h1, h9⟩, h⟩ := h
  have hlt : ∀ k, nb G k < 2 ^ G.length := fun k => by
    by_cases hk : k < G.length
    · exact (h k hk).1.1
    · rw [nb_lt G k (by omega)]; exact two_pow_pos' _
  refine ⟨h1, h9, hlt, fun k => ?_, fun j k => ?_⟩
  · by_cases hk : k < G.length
    · exact (h k hk).1.2
    · rw [nb_lt G k (by omega)]; simp
  · by_cases hk : k < G.length
    · by_cases hj : j < G.length
      · exact (h k hk).2 j hj
      · rw [nb_lt G j (by omega), tb_lt (hlt k) (by omega)]; simp
    · rw [nb_lt G k (by omega), tb_lt (hlt j) (by omega)]; simp
end Go.Proofs.YtmghnfadgnolpaaDoor.Sw

