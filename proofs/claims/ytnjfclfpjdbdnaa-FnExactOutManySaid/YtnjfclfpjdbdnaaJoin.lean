/- joinPoints by its contract. Conditions: two different points, sets below 2^40. -/
import Derived.Test.YtnjfclfpjdbdnaaOwn
import Derived.RegionTactic
import Derived.BigRegion
namespace Go.Proofs.Ytnjfclfpjdbdnaa
open Go.RowKit
/-- a row of the call's own that holds the sets f 0, .. f (n-1) -/
def OwnF (w : World) (lo hi : Nat) (v : Value) (n : Nat) (f : Nat → Nat) : Prop := OwnI w lo hi v (Sw.toI (Sw.tab n f))
theorem toI_tab_len (n : Nat) (f : Nat → Nat) : (Sw.toI (Sw.tab n f)).length = n := by rw [Sw.toI_len, Sw.tab_len]
theorem gat_toI_tab {n k : Nat} (f : Nat → Nat) (h : k < n) : Sw.gat (Sw.toI (Sw.tab n f)) k = (f k : Int) := by rw [Sw.gat_toI, Sw.nb_tab f h]
theorem toI_tab_set {n k : Nat} (f : Nat → Nat) (x : Nat) : (Sw.toI (Sw.tab n f)).set k (x : Int) = Sw.toI (Sw.tab n fun j => if j = k then x else f j) := by
  unfold Sw.toI
  rw [← Sw.tab_set f x, List.map_set]; rfl
theorem OwnF.form {w : World} {lo hi n : Nat} {v : Value} {f : Nat → Nat} (h : OwnF w lo hi v n f) (hn : 0 < n) : ∃ g c, v = .slice (some ⟨g, 0, none⟩) n c ∧ lo ≤ g ∧ g < hi ∧ ∀ k, k < n → w.cell? ⟨g, k, none⟩ = some (.int .i64 (f k : Nat)) ∧ w.frozen? ⟨g, k, none⟩ = false := by
  obtain ⟨g, c, h1, h2, h3, h4⟩ := OwnI.form h (by rw [toI_tab_len]; exact hn)
  rw [toI_tab_len] at h1 h4
  exact ⟨g, c, h1, h2, h3, fun k hk => by have := h4 k hk; rw [gat_toI_tab f hk] at this; exact this⟩
theorem OwnF.set {w : World} {lo hi n g c : Nat} {f : Nat → Nat} (h : OwnF w lo hi (.slice (some ⟨g, 0, none⟩) n c) n f) (k x : Nat) :
    OwnF (w.setCell ⟨g, k, none⟩ (.int .i64 (x : Int))) lo hi (.slice (some ⟨g, 0, none⟩) n c) n (fun j => if j = k then x else f j) ∧ w.grownBy (w.setCell ⟨g, k, none⟩ (.int .i64 (x : Int))) (some g) := by
  have h' : OwnI w lo hi (.slice (some ⟨g, 0, none⟩) (Sw.toI (Sw.tab n f)).length c) (Sw.toI (Sw.tab n f)) := by rw [toI_tab_len]; exact h
  obtain ⟨h1, h2⟩ := h'.set k (x : Int)
  rw [toI_tab_set, toI_tab_len] at h1
  exact ⟨h1, h2⟩
theorem grown_drew {w w' : World} {row : Option Nat} (h : w.grownBy w' row) : w.grownBy w'.drew row := ⟨h.os, h.tape, h.output, h.size, h.block⟩
theorem grown_undrew {w w' : World} {row : Option Nat} (h : w.drew.grownBy w' row) : w.grownBy w' row := ⟨h.os, h.tape, h.output, h.size, h.block⟩
end Go.Proofs.Ytnjfclfpjdbdnaa

