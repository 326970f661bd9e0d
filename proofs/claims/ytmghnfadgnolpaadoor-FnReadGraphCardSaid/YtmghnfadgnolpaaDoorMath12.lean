/- The text of a graph: plain Lean. No conditions. -/
import Derived.Test.YtmghnfadgnolpaaDoorMath
import Derived.Lib.ItoaNum
import Derived.Lib.UnsafeStr
import Derived.Lib.AppendIntMem
namespace Go.Proofs.YtmghnfadgnolpaaDoor.Sw
/-- a digit -/
def dig (d : Nat) : List UInt8 := [UInt8.ofNat (48 + d)]
theorem dig_dec {d : Nat} (h : d < 10) : Lib.decDigits d = dig d := by unfold Lib.decDigits; rw [dif_pos h]; rfl
theorem dig_len (d : Nat) : (dig d).length = 1 := rfl
/-- a line looked at: the text so far, and whether none has come -/
def tStep (G : List Nat) (a b : Nat) (s : List UInt8 × Bool) : List UInt8 × Bool :=
  if (nb G a).testBit b = true then ((if s.2 = true then s.1 else s.1 ++ [44]) ++ dig a ++ [45] ++ dig b, false) else s
def tIn (G : List Nat) (a : Nat) (s : List UInt8 × Bool) (m : Nat) : List UInt8 × Bool := lp (fun j x => tStep G a (a + 1 + j) x) s m
def tOut (G : List Nat) (a : Nat) : List UInt8 × Bool := lp (fun i x => tIn G i x (G.length - (i + 1))) (dig G.length ++ [58], true) a
def gText (G : List Nat) : List UInt8 := (tOut G G.length).1
theorem tIn_zero (G : List Nat) (a : Nat) (s : List UInt8 × Bool) : tIn G a s 0 = s := rfl
theorem tIn_succ (G : List Nat) (a : Nat) (s : List UInt8 × Bool) (m : Nat) : tIn G a s (m + 1) = tStep G a (a + 1 + m) (tIn G a s m) := rfl
theorem tOut_zero (G : List Nat) : tOut G 0 = (dig G.length ++ [58], true) := rfl
theorem tOut_succ (G : List Nat) (a : Nat) : tOut G (a + 1) = tIn G a (tOut G a) (G.length - (a + 1)) := rfl
theorem tStep_len (G : List Nat) (a b : Nat) (s : List UInt8 × Bool) : (tStep G a b s).1.length ≤ s.1.length + 4 := by
  unfold tStep
  split
  · split <;> simp [dig]
  · omega
theorem tIn_len (G : List Nat) (a : Nat) (s : List UInt8 × Bool) : ∀ m, (tIn G a s m).1.length ≤ s.1.length + 4 * m
  | 0 => Nat.le_refl _
  | m + 1 => by
    have h1 := tIn_len G a s m
    have h2 := tStep_len G a (a + 1 + m) (tIn G a s m)
    rw [tIn_succ]; omega
theorem tOut_len {G : List Nat} (hn : G.length ≤ 9) : ∀ a, (tOut G a).1.length ≤ 2 + 36 * a
  | 0 => by rw [tOut_zero]; simp [dig]
  | a + 1 => by
    have h1 := tOut_len hn a
    have h2 := tIn_len G a (tOut G a) (G.length - (a + 1))
    rw [tOut_succ]; omega
theorem tStep_no {G : List Nat} {a b : Nat} {s : List UInt8 × Bool} (h : (nb G a).testBit b = false) : tStep G a b s = s := by unfold tStep; rw [if_neg (by rw [h]; simp)]
theorem tStep_first {G : List Nat} {a b : Nat} {t : List UInt8} (h : (nb G a).testBit b = true) : tStep G a b (t, true) = (t ++ dig a ++ [45] ++ dig b, false) := by unfold tStep; rw [if_pos h]; rfl
theorem tStep_more {G : List Nat} {a b : Nat} {t : List UInt8} (h : (nb G a).testBit b = true) : tStep G a b (t, false) = (t ++ [44] ++ dig a ++ [45] ++ dig b, false) := by unfold tStep; rw [if_pos h]; rfl
end Go.Proofs.YtmghnfadgnolpaaDoor.Sw

