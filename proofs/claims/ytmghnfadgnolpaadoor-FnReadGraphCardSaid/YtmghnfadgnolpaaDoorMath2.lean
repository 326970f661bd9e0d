/- More plain laws: grids, lengths of what is made. No program in sight. No conditions. -/
import Derived.Test.YtmghnfadgnolpaaDoorMath
namespace Go.Proofs.YtmghnfadgnolpaaDoor.Sw
theorem vRing_len (p : Int) : (vRing p).length ≤ 9 := by
  unfold vRing
  split
  · rw [toI_len]; unfold ringL; rw [tab_len]; omega
  · simp
/-! ## grids -/
def gridStep (a b r c : Nat) (f : Nat → Nat) : Nat → Nat :=
  let f1 := if c + 1 < a then join f (r * a + c) (r * a + c + 1) else f
  if r + 1 < b then join f1 (r * a + c) (r * a + c + a) else f1
def gridIn (a b r : Nat) (f : Nat → Nat) (c : Nat) : Nat → Nat := lp (fun c f => gridStep a b r c f) f c
def gridOut (a b r : Nat) : Nat → Nat := lp (fun r f => gridIn a b r f a) (fun _ => 0) r
theorem gridIn_succ (a b r : Nat) (f : Nat → Nat) (c : Nat) : gridIn a b r f (c + 1) = gridStep a b r c (gridIn a b r f c) := rfl
theorem gridOut_succ (a b r : Nat) : gridOut a b (r + 1) = gridIn a b r (gridOut a b r) a := rfl
/-- what the reference writes -/
def put (f : Nat → Nat) (k x : Nat) : Nat → Nat := fun j => if j = k then x else f j
def gsA (a k : Nat) (f : Nat → Nat) : Nat → Nat := if 0 < k % a then put (put f k (f k + 2 ^ (k - 1))) (k - 1) (f (k - 1) + 2 ^ k) else f
def gsB (a k : Nat) (f : Nat → Nat) : Nat → Nat := if a ≤ k then put (put f k (f k + 2 ^ (k - a))) (k - a) (f (k - a) + 2 ^ k) else f
def gridS (a k : Nat) : Nat → Nat := lp (fun k f => gsB a k (gsA a k f)) (fun _ => 0) k
theorem gridS_succ (a k : Nat) : gridS a (k + 1) = gsB a k (gsA a k (gridS a k)) := rfl
def gridF (a b : Nat) : Nat → Nat := gridOut a b b
theorem gridStep_lt {a b r c : Nat} {f : Nat → Nat} (h : a * b ≤ 9) (hr : r < b) (hc : c < a) (hf : ∀ k, f k < 2 ^ 9) (k : Nat) : gridStep a b r c f k < 2 ^ 9 := by
  have h1 : r * a + c < 9 := by
    have : (r + 1) * a ≤ b * a := Nat.mul_le_mul_right a hr
    rw [Nat.add_mul, Nat.mul_comm b a] at this; omega
  have hf1 : ∀ k, (if c + 1 < a then join f (r * a + c) (r * a + c + 1) else f) k < 2 ^ 9 := by
    intro k
    split
    · refine join_lt h1 ?_ hf k
      have : (r + 1) * a ≤ b * a := Nat.mul_le_mul_right a hr
      rw [Nat.add_mul, Nat.mul_comm b a] at this; omega
    · exact hf k
  unfold gridStep
  split
  · refine join_lt h1 ?_ hf1 k
    have : (r + 2) * a ≤ b * a := Nat.mul_le_mul_right a (by omega)
    rw [Nat.add_mul, Nat.mul_comm b a] at this; omega
  · exact hf1 k
theorem gridIn_lt {a b r : Nat} {f : Nat → Nat} (h : a * b ≤ 9) (hr : r < b) (hf : ∀ k, f k < 2 ^ 9) : ∀ c, c ≤ a → ∀ k, gridIn a b r f c k < 2 ^ 9
  | 0, _, k => hf k
  | c + 1, hc, k => by
    rw [gridIn_succ]
    exact gridStep_lt h hr (by omega) (gridIn_lt h hr hf c (by omega)) k
theorem gridOut_lt {a b : Nat} (h : a * b ≤ 9) : ∀ r, r ≤ b → ∀ k, gridOut a b r k < 2 ^ 9
  | 0, _, k => by show (0 : Nat) < 2 ^ 9; decide
  | r + 1, hr, k => by
    rw [gridOut_succ]
    exact gridIn_lt h (by omega) (gridOut_lt h r (by omega)) a (Nat.le_refl _) k
def forSides (q : Nat → Nat → Nat → Bool) : Bool := (List.range 10).all fun a => (List.range 10).all fun b => !(decide (1 ≤ a) && decide (1 ≤ b) && decide (a * b ≤ 9)) || (List.range (a * b)).all fun k => q a b k
theorem forSides_get {q : Nat → Nat → Nat → Bool} (h : forSides q = true) {a b k : Nat} (ha : a < 10) (hb : b < 10) (h1 : 1 ≤ a) (h2 : 1 ≤ b) (h3 : a * b ≤ 9) (hk : k < a * b) : q a b k = true := by
  have e1 := List.all_eq_true.1 h a (List.mem_range.2 ha)
  have e2 := List.all_eq_true.1 e1 b (List.mem_range.2 hb)
  rw [decide_eq_true h1, decide_eq_true h2, decide_eq_true h3] at e2
  have e3 : (List.range (a * b)).all (fun k => q a b k) = true := by simpa using e2
  exact List.all_eq_true.1 e3 k (List.mem_range.2 hk)
theorem grid_chk : forSides (fun a b k => gridS a (a * b) k == gridF a b k) = true := by decide +kernel
theorem grid_chk2 : forSides (fun a b m => (List.range (a * b)).all fun k => decide (gridS a m k < 1024) && decide (gsA a m (gridS a m) k < 1024)) = true := by decide +kernel
theorem side_le {a b : Nat} (ha : 1 ≤ a) (hb : 1 ≤ b) (h : a * b ≤ 9) : a < 10 ∧ b < 10 := by
  have h1 : a ≤ 9 := Nat.le_trans (Nat.le_mul_of_pos_right a hb) h
  have h2 : b ≤ 9 := Nat.le_trans (Nat.le_mul_of_pos_left b ha) h
  omega
theorem grid_eq {a b : Nat} (ha : 1 ≤ a) (hb : 1 ≤ b) (h : a * b ≤ 9) (k : Nat) (hk : k < a * b) : gridS a (a * b) k = gridF a b k := by
  have := forSides_get grid_chk (side_le ha hb h).1 (side_le ha hb h).2 ha hb h hk
  simpa using this
theorem gridS_lt {a b : Nat} (ha : 1 ≤ a) (hb : 1 ≤ b) (h : a * b ≤ 9) (m : Nat) (hm : m < a * b) (k : Nat) (hk : k < a * b) : gridS a m k < 1024 ∧ gsA a m (gridS a m) k < 1024 := by
  have h1 := forSides_get grid_chk2 (side_le ha hb h).1 (side_le ha hb h).2 ha hb h hm
  have h2 := List.all_eq_true.1 h1 k (List.mem_range.2 hk)
  rw [Bool.and_eq_true, decide_eq_true_eq, decide_eq_true_eq] at h2
  exact h2
/-- what 'GridOf' answers -/
def gridOk (p q : Int) : Prop := 1 ≤ p ∧ p ≤ 9 ∧ 1 ≤ q ∧ q ≤ 9 ∧ p * q ≤ 9
instance (p q : Int) : Decidable (gridOk p q) := by unfold gridOk; exact inferInstance
def vGrid (p q : Int) : List Int := if gridOk p q then toI (tab (p.toNat * q.toNat) (gridF p.toNat q.toNat)) else []
theorem vGrid_no {p q : Int} (h : ¬ gridOk p q) : vGrid p q = [] := by unfold vGrid; rw [if_neg h]
theorem vGrid_yes {a b : Nat} (ha : 1 ≤ a) (hb : 1 ≤ b) (h : a * b ≤ 9) : vGrid (a : Int) (b : Int) = toI (tab (a * b) (gridF a b)) := by
  have h1 : a ≤ 9 := Nat.le_trans (Nat.le_mul_of_pos_right a hb) h
  have h2 : b ≤ 9 := Nat.le_trans (Nat.le_mul_of_pos_left b ha) h
  have h3 : ((a : Int) * (b : Int)) ≤ 9 := by exact_mod_cast h
  unfold vGrid; rw [if_pos ⟨by omega, by omega, by omega, by omega, h3⟩]; rfl
theorem gridOk_nat {p q : Int} (h : gridOk p q) : ∃ a b : Nat, p = a ∧ q = b ∧ 1 ≤ a ∧ 1 ≤ b ∧ a * b ≤ 9 := by
  obtain ⟨h1, h2, h3, h4, h5⟩ := h
  obtain ⟨a, rfl⟩ := Int.eq_ofNat_of_zero_le (show 0 ≤ p by omega)
  obtain ⟨b, rfl⟩ := Int.eq_ofNat_of_zero_le (show 0 ≤ q by omega)
  exact ⟨a, b, rfl, rfl, by omega, by omega, by exact_mod_cast h5⟩
theorem vGrid_len (p q : Int) : (vGrid p q).length ≤ 9 := by
  by_cases h : gridOk p q
  · obtain ⟨a, b, rfl, rfl, ha, hb, h⟩ := gridOk_nat h
    rw [vGrid_yes ha hb h, toI_len, tab_len]; exact h
  · rw [vGrid_no h]; simp
end Go.Proofs.YtmghnfadgnolpaaDoor.Sw

