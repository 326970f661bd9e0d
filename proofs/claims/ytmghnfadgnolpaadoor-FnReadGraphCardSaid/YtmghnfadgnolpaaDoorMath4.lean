/- Plain law of LineSet. No program in sight. No conditions. -/
import Derived.Test.YtmghnfadgnolpaaDoorMath
namespace Go.Proofs.YtmghnfadgnolpaaDoor.Sw
/-- x with bit k as told -/
def setBit (x k : Nat) (on : Bool) : Nat := if x.testBit k = on then x else x ^^^ 2 ^ k
theorem tb_setBit (x k : Nat) (on : Bool) (j : Nat) : (setBit x k on).testBit j = if j = k then on else x.testBit j := by
  unfold setBit
  by_cases h : x.testBit k = on
  · rw [if_pos h]
    by_cases q : j = k
    · subst q; rw [if_pos rfl]; exact h
    · rw [if_neg q]
  · rw [if_neg h, Nat.testBit_xor, tb_two]
    by_cases q : j = k
    · subst q; rw [if_pos rfl]
      cases on <;> cases hx : x.testBit j <;> simp_all
    · rw [if_neg q, decide_eq_false (fun e => q e.symm), Bool.xor_false]
theorem setBit_lt {x k n : Nat} (on : Bool) (hx : x < 2 ^ n) (hk : k < n) : setBit x k on < 2 ^ n := by
  unfold setBit
  split
  · exact hx
  · exact xor_lt hx (two_lt' hk)
theorem setBit_on (x k : Nat) : x ||| 2 ^ k = setBit x k true := by
  apply Nat.eq_of_testBit_eq
  intro j
  rw [tb_setBit, Nat.testBit_or, tb_two]
  by_cases q : j = k
  · subst q; simp
  · rw [if_neg q, decide_eq_false (fun e => q e.symm), Bool.or_false]
/-- the line between a and b as told -/
def lineF (f : Nat → Nat) (a b : Nat) (on : Bool) : Nat → Nat := fun k => if k = b then setBit (f b) a on else if k = a then setBit (f a) b on else f k
theorem lineF_join (f : Nat → Nat) {a b : Nat} (h : a ≠ b) : join f a b = lineF f a b true := by
  funext k
  unfold join lineF
  by_cases q : k = b
  · subst q; rw [if_pos rfl, if_pos rfl, if_neg (fun e => h e.symm), setBit_on]
  · rw [if_neg q, if_neg q]
    by_cases r : k = a
    · subst r; rw [if_pos rfl, if_pos rfl, setBit_on]
    · rw [if_neg r, if_neg r]
theorem lineF_same {f : Nat → Nat} {a b : Nat} {on : Bool} (h1 : (f a).testBit b = on) (h2 : (f b).testBit a = on) : lineF f a b on = f := by
  funext k
  unfold lineF
  by_cases q : k = b
  · subst q; rw [if_pos rfl]; unfold setBit; rw [if_pos h2]
  · rw [if_neg q]
    by_cases r : k = a
    · subst r; rw [if_pos rfl]; unfold setBit; rw [if_pos h1]
    · rw [if_neg r]
noncomputable def vLineB (l : List Int) (p q : Int) : Bool := gvB l && decide (0 ≤ p ∧ p < l.length ∧ 0 ≤ q ∧ q < l.length ∧ p ≠ q)
noncomputable def vLine (l : List Int) (p q : Int) (on : Bool) : List Int := if vLineB l p q = true then toI (tab l.length (lineF (nb (toN l)) p.toNat q.toNat on)) else []
theorem vLineB_cases (l : List Int) (p q : Int) : vLineB l p q = false ∨ ∃ (G : List Nat) (a b : Nat), l = toI G ∧ GVN G ∧ p = (a : Int) ∧ q = (b : Int) ∧ a < G.length ∧ b < G.length ∧ a ≠ b := by
  by_cases h : vLineB l p q = false
  · exact .inl h
  · refine .inr ?_
    rw [Bool.not_eq_false] at h
    unfold vLineB at h
    rw [Bool.and_eq_true, decide_eq_true_eq, gvB_true] at h
    obtain ⟨⟨G, rfl, hG⟩, h0, h1, h2, h3, h4⟩ := h
    obtain ⟨a, rfl⟩ := Int.eq_ofNat_of_zero_le h0
    obtain ⟨b, rfl⟩ := Int.eq_ofNat_of_zero_le h2
    rw [toI_len] at h1 h3
    exact ⟨G, a, b, rfl, hG, rfl, rfl, by exact_mod_cast h1, by exact_mod_cast h3, fun e => h4 (by rw [e])⟩
theorem vLineB_yes {G : List Nat} (hG : GVN G) {a b : Nat} (ha : a < G.length) (hb : b < G.length) (hab : a ≠ b) : vLineB (toI G) (a : Int) (b : Int) = true := by
  unfold vLineB; rw [gvB_yes hG, toI_len, Bool.true_and, decide_eq_true_eq]
  exact ⟨by omega, by omega, by omega, by omega, by omega⟩
theorem vLine_yes {G : List Nat} (hG : GVN G) {a b : Nat} (ha : a < G.length) (hb : b < G.length) (hab : a ≠ b) (on : Bool) : vLine (toI G) (a : Int) (b : Int) on = toI (tab G.length (lineF (nb G) a b on)) := by
  unfold vLine; rw [if_pos (vLineB_yes hG ha hb hab), toN_toI, toI_len]; rfl
theorem vLine_no {l : List Int} {p q : Int} {on : Bool} (h : vLineB l p q = false) : vLine l p q on = [] := by unfold vLine; rw [h]; rfl
theorem vLineB_no {l : List Int} {p q : Int} (h : vLineB l p q = false) : gvB l = false ∨ p < 0 ∨ (l.length : Int) ≤ p ∨ q < 0 ∨ (l.length : Int) ≤ q ∨ p = q := by
  unfold vLineB at h
  rw [Bool.and_eq_false_iff] at h
  rcases h with h | h
  · exact .inl h
  · refine .inr ?_
    have := of_decide_eq_false h
    omega
theorem vLine_len (l : List Int) (p q : Int) (on : Bool) : (vLine l p q on).length ≤ 9 := by
  rcases vLineB_cases l p q with h | ⟨G, a, b, rfl, hG, rfl, rfl, ha, hb, hab⟩
  · rw [vLine_no h]; simp
  · rw [vLine_yes hG ha hb hab, toI_len, tab_len]; exact hG.le
end Go.Proofs.YtmghnfadgnolpaaDoor.Sw

