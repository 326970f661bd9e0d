/- What the reference cuts off a text, and which number it reads: plain Lean. No conditions. -/
import Derived.Test.YtmghnfadgnolpaaDoorMath14
namespace Go.Proofs.YtmghnfadgnolpaaDoor.Sw
def piece (l : List UInt8) (a b : Nat) : List UInt8 := (l.drop a).take (b - a)
def cutS (c : Nat) (l : List UInt8) (k : Nat) : List (List UInt8) × Nat := lp (fun k s => if gb l k = c then (s.1 ++ [piece l s.2 k], k + 1) else s) ([], 0) k
theorem cutS_zero (c : Nat) (l : List UInt8) : cutS c l 0 = ([], 0) := rfl
theorem cutS_succ (c : Nat) (l : List UInt8) (k : Nat) : cutS c l (k + 1) = if gb l k = c then ((cutS c l k).1 ++ [piece l (cutS c l k).2 k], k + 1) else cutS c l k := rfl
theorem cutS_yes {c : Nat} {l : List UInt8} {k : Nat} (h : gb l k = c) : cutS c l (k + 1) = ((cutS c l k).1 ++ [piece l (cutS c l k).2 k], k + 1) := by rw [cutS_succ, if_pos h]
theorem cutS_no {c : Nat} {l : List UInt8} {k : Nat} (h : gb l k ≠ c) : cutS c l (k + 1) = cutS c l k := by rw [cutS_succ, if_neg h]
theorem cutS_le (c : Nat) (l : List UInt8) : ∀ k, (cutS c l k).2 ≤ k ∧ (cutS c l k).1.length ≤ k
  | 0 => ⟨Nat.le_refl _, Nat.le_refl _⟩
  | k + 1 => by
    have h := cutS_le c l k
    by_cases q : gb l k = c
    · rw [cutS_yes q]; exact ⟨Nat.le_refl _, by rw [List.length_append]; show _ + 1 ≤ _; omega⟩
    · rw [cutS_no q]; omega
def cutL (c : Nat) (l : List UInt8) : List (List UInt8) := (cutS c l l.length).1 ++ [piece l (cutS c l l.length).2 l.length]
theorem cutL_len (c : Nat) (l : List UInt8) : 1 ≤ (cutL c l).length ∧ (cutL c l).length ≤ l.length + 1 := by
  have := cutS_le c l l.length
  unfold cutL
  rw [List.length_append]
  show 1 ≤ _ + 1 ∧ _ + 1 ≤ _
  omega
theorem piece_len (l : List UInt8) (a b : Nat) : (piece l a b).length ≤ l.length := by unfold piece; rw [List.length_take, List.length_drop]; omega
theorem cutL_part {c : Nat} {l p : List UInt8} (h : p ∈ cutL c l) : p.length ≤ l.length := by
  have key : ∀ k, ∀ p ∈ (cutS c l k).1, p.length ≤ l.length := by
    intro k
    induction k with
    | zero => intro p hp; rw [cutS_zero] at hp; simp at hp
    | succ k ih =>
      by_cases q : gb l k = c
      · rw [cutS_yes q]; intro p hp
        rcases List.mem_append.1 hp with h | h
        · exact ih p h
        · rw [List.mem_singleton] at h; rw [h]; exact piece_len _ _ _
      · rw [cutS_no q]; exact ih
  unfold cutL at h
  rcases List.mem_append.1 h with h | h
  · exact key _ p h
  · rw [List.mem_singleton] at h; rw [h]; exact piece_len _ _ _
def dgS (l : List UInt8) : Nat → Option Nat
  | 0 => some 0
  | k + 1 => match dgS l k with
    | none => none
    | some n => if 48 ≤ gb l k ∧ gb l k ≤ 57 then some (10 * n + (gb l k - 48)) else none
theorem dgS_yes {l : List UInt8} {k n : Nat} (h : dgS l k = some n) (h1 : 48 ≤ gb l k) (h2 : gb l k ≤ 57) : dgS l (k + 1) = some (10 * n + (gb l k - 48)) := by
  show (match dgS l k with | none => none | some n => if 48 ≤ gb l k ∧ gb l k ≤ 57 then some (10 * n + (gb l k - 48)) else none) = _
  rw [h]; exact if_pos ⟨h1, h2⟩
theorem dgS_no {l : List UInt8} {k : Nat} (h : gb l k < 48 ∨ 57 < gb l k) : dgS l (k + 1) = none := by
  show (match dgS l k with | none => none | some n => if 48 ≤ gb l k ∧ gb l k ≤ 57 then some (10 * n + (gb l k - 48)) else none) = _
  cases dgS l k with
  | none => rfl
  | some n => exact if_neg (by omega)
theorem dgS_none {l : List UInt8} {k : Nat} (h : dgS l k = none) : ∀ j, dgS l (k + j) = none
  | 0 => h
  | j + 1 => by
    show (match dgS l (k + j) with | none => none | some n => if 48 ≤ gb l (k + j) ∧ gb l (k + j) ≤ 57 then some (10 * n + (gb l (k + j) - 48)) else none) = _
    rw [dgS_none h j]
def digL (l : List UInt8) : Int := if 1 ≤ l.length ∧ l.length ≤ 4 ∧ (l.length ≤ 1 ∨ gb l 0 ≠ 48) then (match dgS l l.length with | some n => (n : Int) | none => -1) else -1
theorem digL_out {l : List UInt8} (h : ¬ (1 ≤ l.length ∧ l.length ≤ 4 ∧ (l.length ≤ 1 ∨ gb l 0 ≠ 48))) : digL l = -1 := if_neg h
theorem digL_bad {l : List UInt8} {k : Nat} (hk : k < l.length) (h : gb l k < 48 ∨ 57 < gb l k) : digL l = -1 := by
  unfold digL
  split
  · have := dgS_none (dgS_no h) (l.length - (k + 1))
    rw [show k + 1 + (l.length - (k + 1)) = l.length by omega] at this
    rw [this]
  · rfl
theorem digL_in {l : List UInt8} {n : Nat} (h : 1 ≤ l.length ∧ l.length ≤ 4 ∧ (l.length ≤ 1 ∨ gb l 0 ≠ 48)) (hn : dgS l l.length = some n) : digL l = (n : Int) := by
  unfold digL; rw [if_pos h, hn]
end Go.Proofs.YtmghnfadgnolpaaDoor.Sw

