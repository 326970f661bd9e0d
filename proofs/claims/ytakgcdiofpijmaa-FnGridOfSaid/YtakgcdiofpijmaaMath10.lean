/- Plain laws of grids and rings: reckoned through, all of them. No program in sight. No conditions. -/
import Derived.Test.YtakgcdiofpijmaaMath2
import Derived.Test.YtakgcdiofpijmaaMath8
namespace Go.Proofs.Ytakgcdiofpijmaa.Sw
/-! ### a check of a graph -/
def gchk (G : List Nat) : Bool := decide (1 ≤ G.length) && decide (G.length ≤ 9) && (List.range G.length).all fun k => decide (nb G k < 2 ^ G.length) && !(nb G k).testBit k && (List.range G.length).all fun j => (nb G k).testBit j == (nb G j).testBit k
theorem gchk_valid {G : List Nat} (h : gchk G = true) : GVN G := by
  unfold gchk at h
  simp only [Bool.and_eq_true, decide_eq_true_eq, List.all_eq_true, List.mem_range, Bool.not_eq_true', beq_iff_eq] at h
  obtain ⟨⟨h1, h9⟩, h⟩ := h
  have hlt : ∀ k, nb G k < 2 ^ G.length := fun k => by
    by_cases hk : k < G.length
    · exact (h k hk).1.1
    · rw [nb_lt G k (by omega)]; exact two_pow_pos' _
  refine ⟨h1, h9, hlt, fun k => ?_, fun j k => ?_⟩
  · by_cases hk : k < G.length
    · exact (h k hk).1.2
    · rw [nb_lt G k (by omega)]; simp
  · by_cases hk : k < G.length
    · by_cases hj : j < G.length
      · exact (h k hk).2 j hj
      · rw [nb_lt G j (by omega), tb_lt (hlt k) (by omega)]; simp
    · rw [nb_lt G k (by omega), tb_lt (hlt j) (by omega)]; simp
/-- is C a colour -/
def colB (G : List Nat) (C : Nat) : Bool := decide (bes G C &&& C = 0) && decide (bes G (rest G C) &&& rest G C = 0)
theorem colB_iff {G : List Nat} (hG : GVN G) {C : Nat} (hC : C < 2 ^ G.length) : colB G C = true ↔ Col G C := by
  unfold colB
  rw [col_iff hG hC, Bool.and_eq_true, decide_eq_true_eq, decide_eq_true_eq]
theorem tc_yes {G : List Nat} (hG : GVN G) {C : Nat} (h : Col G C) : (tc G).isSome = true := by
  obtain ⟨D, h1, h2⟩ := can_of_col hG h
  rw [tc_of hG h1 h2]; rfl
/-! ### grids -/
def gridL (a b : Nat) : List Nat := tab (a * b) (gridF a b)
/-- black and white -/
def chess (a b : Nat) : Nat := ofP (a * b) fun k => (k % a + k / a) % 2 == 1
def gridsAll (q : Nat → Nat → Bool) : Bool := (List.range 10).all fun a => (List.range 10).all fun b => !(decide (1 ≤ a) && decide (1 ≤ b) && decide (a * b ≤ 9)) || q a b
theorem gridsAll_get {q : Nat → Nat → Bool} (h : gridsAll q = true) {a b : Nat} (h1 : 1 ≤ a) (h2 : 1 ≤ b) (h3 : a * b ≤ 9) : q a b = true := by
  have hs := side_le h1 h2 h3
  have e1 := List.all_eq_true.1 h a (List.mem_range.2 hs.1)
  have e2 := List.all_eq_true.1 e1 b (List.mem_range.2 hs.2)
  rw [decide_eq_true h1, decide_eq_true h2, decide_eq_true h3] at e2
  simpa using e2
theorem grid_chk3 : gridsAll (fun a b => gchk (gridL a b)) = true := by decide +kernel
theorem grid_chk4 : gridsAll (fun a b => decide (degs (gridL a b) (gridL a b).length / 2 + a + b = 2 * a * b)) = true := by decide +kernel
theorem grid_chk5 : gridsAll (fun a b => decide (pt (gridL a b) 0 = 2 ^ (gridL a b).length - 1)) = true := by decide +kernel
theorem grid_chk6 : gridsAll (fun a b => colB (gridL a b) (chess a b)) = true := by decide +kernel
theorem grid_law {a b : Nat} (h1 : 1 ≤ a) (h2 : 1 ≤ b) (h3 : a * b ≤ 9) :
    GVN (gridL a b) ∧ degs (gridL a b) (gridL a b).length / 2 + a + b = 2 * a * b ∧ pt (gridL a b) 0 = 2 ^ (gridL a b).length - 1 ∧ (tc (gridL a b)).isSome = true := by
  have hG := gchk_valid (gridsAll_get grid_chk3 h1 h2 h3)
  refine ⟨hG, of_decide_eq_true (gridsAll_get grid_chk4 h1 h2 h3), of_decide_eq_true (gridsAll_get grid_chk5 h1 h2 h3), ?_⟩
  have hC : chess a b < 2 ^ (gridL a b).length := by unfold gridL; rw [tab_len]; exact ofP_lt _ _
  exact tc_yes hG ((colB_iff hG hC).1 (gridsAll_get grid_chk6 h1 h2 h3))
/-! ### rings -/
def ringsAll (q : Nat → Bool) : Bool := (List.range 7).all fun m => q (m + 3)
theorem ringsAll_get {q : Nat → Bool} (h : ringsAll q = true) {n : Nat} (h3 : 3 ≤ n) (h9 : n ≤ 9) : q n = true := by
  have := List.all_eq_true.1 h (n - 3) (List.mem_range.2 (by omega))
  rwa [show n - 3 + 3 = n by omega] at this
theorem ring_chk1 : ringsAll (fun n => gchk (ringL n)) = true := by decide +kernel
theorem ring_chk2 : ringsAll (fun n => decide (degs (ringL n) (ringL n).length / 2 = n)) = true := by decide +kernel
theorem ring_chk3 : ringsAll (fun n => decide (pt (ringL n) 0 = 2 ^ (ringL n).length - 1)) = true := by decide +kernel
theorem ring_chk4 : ringsAll (fun n => if n % 2 = 0 then colB (ringL n) (ofP n fun k => k % 2 == 1) else (List.range (2 ^ n)).all fun C => !colB (ringL n) C) = true := by decide +kernel
theorem ring_chk5 : ringsAll (fun n => decide (am (ringL n) = n / 2)) = true := by decide +kernel
theorem ring_law {n : Nat} (h3 : 3 ≤ n) (h9 : n ≤ 9) :
    GVN (ringL n) ∧ degs (ringL n) (ringL n).length / 2 = n ∧ pt (ringL n) 0 = 2 ^ (ringL n).length - 1 ∧ (tc (ringL n)).isSome = decide (n % 2 = 0) ∧ am (ringL n) = n / 2 := by
  have hG := gchk_valid (ringsAll_get ring_chk1 h3 h9)
  refine ⟨hG, of_decide_eq_true (ringsAll_get ring_chk2 h3 h9), of_decide_eq_true (ringsAll_get ring_chk3 h3 h9), ?_, of_decide_eq_true (ringsAll_get ring_chk5 h3 h9)⟩
  have hl : (ringL n).length = n := by unfold ringL; exact tab_len _ _
  have h := ringsAll_get ring_chk4 h3 h9
  by_cases q : n % 2 = 0
  · rw [if_pos q] at h
    rw [decide_eq_true q]
    exact tc_yes hG ((colB_iff hG (by rw [hl]; exact ofP_lt _ _)).1 h)
  · rw [if_neg q] at h
    rw [decide_eq_false q]
    have : tc (ringL n) = none := by
      apply tc_none
      intro C hC
      have hlt := hC.1
      rw [hl] at hlt
      have h1 := List.all_eq_true.1 h C (List.mem_range.2 hlt)
      rw [(colB_iff hG hC.1).2 hC] at h1
      simp at h1
    rw [this]; rfl
end Go.Proofs.Ytakgcdiofpijmaa.Sw

