/- joinPoints by its contract. Conditions: two different points, sets below 2^40. -/
import Derived.Test.YtmghnfadgnolpaaDoorOwn
import Derived.RegionTactic
import Derived.BigRegion
namespace Go.Proofs.YtmghnfadgnolpaaDoor
open Go.RowKit
/-- a row of the call's own that holds the sets f 0, .. f (n-1) -/
def OwnF (w : World) (lo hi : Nat) (v : Value) (n : Nat) (f : Nat → Nat) : Prop := OwnI w lo hi v (Sw.toI (Sw.tab n f))
theorem toI_tab_len (n : Nat) (f : Nat → Nat) : (Sw.toI (Sw.tab n f)).length = n := by rw [Sw.toI_len, Sw.tab_len]
theorem gat_toI_tab {n k : Nat} (f : Nat → Nat) (h : k < n) : Sw.gat (Sw.toI (Sw.tab n f)) k = (f k : Int) := by rw [Sw.gat_toI, Sw.nb_tab f h]
theorem toI_tab_set {n k : Nat} (f : Nat → Nat) (x : Nat) : (Sw.toI (Sw.tab n f)).set k (x : Int) = Sw.toI (Sw.tab n fun j => if j = k then x else f j) := by
  unfold Sw.toI
  rw [← Sw.tab_set f x, List.map_set]; rfl
theorem OwnF.form {w : World} {lo hi n : Nat} {v : Value} {f : Nat → Nat} (h : OwnF w lo hi v n f) (hn : 0 < n) : ∃ g c, v = .slice (some ⟨g, 0, none⟩) n c ∧ lo ≤ g ∧ g < hi ∧ ∀ k, k < n → w.cell? ⟨g, k, none⟩ = some (.int .i64 (f k : Nat)) ∧ w.frozen? ⟨g, k, none⟩ = false := by
  obtain ⟨g, c, h1, h2, h3, h4⟩ := OwnI.form h (by rw [toI_tab_len]; exact hn)
  rw [toI_tab_len] at h1 h4
  exact ⟨g, c, h1, h2, h3, fun k hk => by have := h4 k hk; rw [gat_toI_tab f hk] at this; exact this⟩
theorem OwnF.set {w : World} {lo hi n g c : Nat} {f : Nat → Nat} (h : OwnF w lo hi (.slice (some ⟨g, 0, none⟩) n c) n f) (k x : Nat) :
    OwnF (w.setCell ⟨g, k, none⟩ (.int .i64 (x : Int))) lo hi (.slice (some ⟨g, 0, none⟩) n c) n (fun j => if j = k then x else f j) ∧ w.grownBy (w.setCell ⟨g, k, none⟩ (.int .i64 (x : Int))) (some g) := by
  have h' : OwnI w lo hi (.slice (some ⟨g, 0, none⟩) (Sw.toI (Sw.tab n f)).length c) (Sw.toI (Sw.tab n f)) := by rw [toI_tab_len]; exact h
  obtain ⟨h1, h2⟩ := h'.set k (x : Int)
  rw [toI_tab_set, toI_tab_len] at h1
  exact ⟨h1, h2⟩
theorem grown_drew {w w' : World} {row : Option Nat} (h : w.grownBy w' row) : w.grownBy w'.drew row := ⟨h.os, h.tape, h.output, h.size, h.block⟩
theorem grown_undrew {w w' : World} {row : Option Nat} (h : w.drew.grownBy w' row) : w.grownBy w' row := ⟨h.os, h.tape, h.output, h.size, h.block⟩
theorem joinPoints (w : World) (lo hi n g c : Nat) (f : Nat → Nat) (a b : Nat) (ha : a < n) (hb : b < n) (hab : a ≠ b) (hn : n ≤ 9) (hf : ∀ k, k < n → f k < 2 ^ 9) (h : OwnF w lo hi (.slice (some ⟨g, 0, none⟩) n c) n f) :
    Calls Tryd.prog 25 #[.slice (some ⟨g, 0, none⟩) n c, .int .i64 a, .int .i64 b] w fun e w' => e = .returned (.tuple #[]) ∧ OwnF w' lo hi (.slice (some ⟨g, 0, none⟩) n c) n (Sw.join f a b) ∧ w.grownBy w' (some g) := by
  obtain ⟨g', c', e, _, _, hc⟩ := h.form (by omega)
  injection e with e1 _ _
  injection e1 with e1
  injection e1 with e1 _ _
  subst e1
  obtain ⟨hca, hfa⟩ := hc a ha
  have hpa : (2 : Int) ^ a ≤ 512 := pow9 (by omega)
  have hpa1 := pow1 a
  have hpb : (2 : Int) ^ b ≤ 512 := pow9 (by omega)
  have hpb1 := pow1 b
  have hwa : IntKind.i64.wrap ((2 : Int) ^ a) = 2 ^ a := IntWalk.i64_in _ (by omega)
  have hwb : IntKind.i64.wrap ((2 : Int) ^ b) = 2 ^ b := IntWalk.i64_in _ (by omega)
  have hoa : bits .or .i64 ((f a : Nat) : Int) ((2 : Int) ^ b) = ((f a ||| 2 ^ b : Nat) : Int) := by
    rw [pow_nat]; exact i64_or _ _ (lt63 (Nat.le_refl 9) (hf a ha)) (lt63 (Nat.le_refl 9) (Nat.lt_of_lt_of_le (Sw.two_lt' hb) (Sw.pow_le9 hn)))
  obtain ⟨hcb, hfb⟩ := hc b hb
  have hob : bits .or .i64 ((f b : Nat) : Int) ((2 : Int) ^ a) = ((f b ||| 2 ^ a : Nat) : Int) := by
    rw [pow_nat]; exact i64_or _ _ (lt63 (Nat.le_refl 9) (hf b hb)) (lt63 (Nat.le_refl 9) (Nat.lt_of_lt_of_le (Sw.two_lt' ha) (Sw.pow_le9 hn)))
  clear hc
  go_enter Tryd.func25, Tryd.ntmps25
  go_wp2_with fail
  go_region
  go_wp2_with fail
  go_region
  go_wp2_with fail
  go_end0
  have s1 := h.set a (f a ||| 2 ^ b)
  have s2 := s1.1.set b (f b ||| 2 ^ a)
  have e : (fun j => if j = b then f b ||| 2 ^ a else (fun j => if j = a then f a ||| 2 ^ b else f j) j) = Sw.join f a b := by
    funext j
    unfold Sw.join
    by_cases q : j = b
    · have q2 : ¬ j = a := fun r => hab (r.symm.trans q)
      rw [if_pos q, if_pos q, if_neg q2, q]
    · rw [if_neg q, if_neg q]
      by_cases r : j = a
      · rw [r]
      · simp [r]
  rw [e] at s2
  exact ⟨rfl, s2.1, grown_drew (grown_drew (World.grownBy.trans s1.2 s2.2))⟩
end Go.Proofs.YtmghnfadgnolpaaDoor

