/- Plain law of RankOf: what both compute, step by step. No program in sight. No conditions. -/
import Derived.Test.YtmghnfadgnolpaaDoorMath
namespace Go.Proofs.YtmghnfadgnolpaaDoor.Sw
def okRows (l : List Int) : Prop := l.length ≤ 9 ∧ ∀ k, k < l.length → 0 ≤ gat l k ∧ gat l k < 512
open Classical in
noncomputable def vRank (l : List Int) : Int := if okRows l then ((rank l.length (nb (toN l)) : Nat) : Int) else -1
theorem vRank_yes {l : List Int} (h : okRows l) : vRank l = ((rank l.length (nb (toN l)) : Nat) : Int) := by unfold vRank; rw [if_pos h]
theorem vRank_no {l : List Int} (h : ¬ okRows l) : vRank l = -1 := by unfold vRank; rw [if_neg h]
theorem nb_toN {l : List Int} {k : Nat} (hk : k < l.length) (h : 0 ≤ gat l k) : ((nb (toN l) k : Nat) : Int) = gat l k := by
  unfold nb toN
  unfold gat at h ⊢
  rw [List.getD_eq_getElem?_getD, List.getElem?_map]
  rw [List.getD_eq_getElem?_getD] at h ⊢
  rw [List.getElem?_eq_getElem hk] at h ⊢
  simp only [Option.map_some, Option.getD_some] at h ⊢
  omega
theorem nb_toN_lt {l : List Int} (h : okRows l) (k : Nat) (hk : k < l.length) : nb (toN l) k < 2 ^ 9 := by
  have h1 := h.2 k hk
  have := nb_toN hk h1.1
  omega
theorem rank_eq (n : Nat) (f : Nat → Nat) : rank n f = cnt (rstK n f 9).2 := by unfold rank; rfl
/-- a row added to the others, so far -/
def addK (g : Nat → Nat) (l p j : Nat) : Nat → Nat := fun k => if k < j then addTo g l p k else g k
theorem addK_zero (g : Nat → Nat) (l p : Nat) : addK g l p 0 = g := by funext k; unfold addK; rw [if_neg (by omega)]
theorem addK_at (g : Nat → Nat) (l p j : Nat) : addK g l p j j = g j := by unfold addK; rw [if_neg (by omega)]
theorem addK_p (g : Nat → Nat) (l p j : Nat) : addK g l p j p = g p := by
  unfold addK addTo
  by_cases h : p < j
  · rw [if_pos h, if_neg (by simp)]
  · rw [if_neg h]
theorem addK_skip {g : Nat → Nat} {l p j : Nat} (h : ¬ (j ≠ p ∧ (g j).testBit l = true)) : addK g l p (j + 1) = addK g l p j := by
  funext k
  unfold addK
  by_cases q : k = j
  · subst q; rw [if_pos (by omega), if_neg (by omega)]; unfold addTo; rw [if_neg h]
  · by_cases r : k < j
    · rw [if_pos (by omega), if_pos r]
    · rw [if_neg (by omega), if_neg r]
theorem addK_step {g : Nat → Nat} {l p j : Nat} (h : j ≠ p ∧ (g j).testBit l = true) : addK g l p (j + 1) = fun i => if i = j then g j ^^^ g p else addK g l p j i := by
  funext k
  unfold addK
  by_cases q : k = j
  · subst q; rw [if_pos (by omega), if_pos rfl]; unfold addTo; rw [if_pos h]
  · rw [if_neg q]
    by_cases r : k < j
    · rw [if_pos (by omega), if_pos r]
    · rw [if_neg (by omega), if_neg r]
theorem addK_end (g : Nat → Nat) (l p n k : Nat) (hk : k < n) : addK g l p n k = addTo g l p k := by unfold addK; rw [if_pos hk]
theorem cnt_or_two {c p n : Nat} (hc : c < 2 ^ n) (hp : p < n) (hn : n ≤ 9) (h : c.testBit p = false) : cnt (c ||| 2 ^ p) = cnt c + 1 := by
  have h2 : (2 : Nat) ^ p < 2 ^ n := Nat.pow_lt_pow_right (by decide) hp
  rw [cnt_or_disj hc h2 (by omega), cnt_two (by omega)]
  apply Nat.eq_of_testBit_eq
  intro j
  rw [Nat.testBit_and, tb_two, Nat.zero_testBit]
  by_cases q : j = p
  · subst q; simp [h]
  · simp; intro _ e; exact absurd e (by omega)
theorem rstK_none {n l : Nat} {f : Nat → Nat} (h : pickF n (rstK n f l).1 (rstK n f l).2 l = none) : rstK n f (l + 1) = rstK n f l := by
  rw [rstK_succ]; unfold rstep; rw [h]
theorem rstK_some {n l p : Nat} {f : Nat → Nat} (h : pickF n (rstK n f l).1 (rstK n f l).2 l = some p) : rstK n f (l + 1) = (addTo (rstK n f l).1 l p, (rstK n f l).2 ||| 2 ^ p) := by
  rw [rstK_succ]; unfold rstep; rw [h]
def pickI (n : Nat) (f : Nat → Nat) (c l : Nat) : Int := match pickF n f c l with | some p => (p : Int) | none => -1
theorem pickI_some {n : Nat} {f : Nat → Nat} {c l p : Nat} (h : pickF n f c l = some p) : pickI n f c l = (p : Int) := by unfold pickI; rw [h]
theorem pickI_none {n : Nat} {f : Nat → Nat} {c l : Nat} (h : pickF n f c l = none) : pickI n f c l = -1 := by unfold pickI; rw [h]
theorem pow29 {n : Nat} (h : n ≤ 9) : (2 : Nat) ^ n ≤ 512 := Nat.pow_le_pow_right (by decide) h
end Go.Proofs.YtmghnfadgnolpaaDoor.Sw

