/- Rows of ints that a call itself has made: what they hold, and what keeps them. No conditions. -/
import Derived.Test.YtmghnfadgnolpaaDoorInts
import Derived.Laws.OwnMore
namespace Go.Proofs.YtmghnfadgnolpaaDoor
open Go.RowKit
theorem info_int : (Tryd.prog.info? 3).map (fun i => (i.zero, i.size, i.bytes)) = some (some (.int .i64 0), 1, 8) := by kernel_rfl
def ints (l : List Int) : List Value := l.map (Value.int .i64)
theorem ints_len (l : List Int) : (ints l).length = l.length := by simp [ints]
theorem ints_get (l : List Int) (k : Nat) (h : k < l.length) : (ints l)[k]? = some (.int .i64 (Sw.gat l k)) := by
  unfold ints Sw.gat; simp [h]
theorem ints_set (l : List Int) (k : Nat) (x : Int) : (ints l).set k (.int .i64 x) = ints (l.set k x) := by unfold ints; rw [List.map_set]
theorem ints_snoc (l : List Int) (x : Int) : ints (l ++ [x]) = ints l ++ [.int .i64 x] := by simp [ints]
/-- the slice v is a row of the call's own, in a block from lo on and below hi; it holds the ints l -/
def OwnI (w : World) (lo hi : Nat) (v : Value) (l : List Int) : Prop := w.ownsRow lo 3 1 v l.length (ints l) ∧ hi ≤ w.heap.size ∧ ∀ g, v.ownBlock = some g → g < hi
section
variable {w w' : World} {lo hi : Nat} {v : Value} {l : List Int}
theorem OwnI.nil (w : World) : OwnI w lo w.heap.size (.slice none 0 0) [] := ⟨World.ownsRow_nil _ _ _ _, Nat.le_refl _, fun g h => by simp [Value.ownBlock] at h⟩
/-- its value, and that it reads as l -/
theorem OwnI.rd (h : OwnI w lo hi v l) : ∃ A c, v = .slice A l.length c ∧ RdI w w.heap.size A l := by
  rcases h.1.2 with ⟨hv, hn⟩ | ⟨g, cap, cur, hv, hg, hh, hc, hm, hs, ht⟩
  · exact ⟨none, 0, by rw [hv, hn], fun k hk => by omega⟩
  · refine ⟨some ⟨g, 0, none⟩, cap, hv, fun k hk => ⟨_, rfl, (World.ownsRow.lt h.1 g (by rw [hv]; rfl)).2, ?_⟩⟩
    have h1 := h.1
    rw [hv] at h1
    have := h1.cells (g := g) rfl k (.int .i64 (Sw.gat l k)) (ints_get l k hk)
    exact this
theorem OwnI.own (h : w.ownsRow lo 3 1 v l.length (ints l)) : OwnI w lo w.heap.size v l := ⟨h, Nat.le_refl _, fun g hg => (h.lt g hg).2⟩
/-- its form where it is not empty -/
theorem OwnI.form (h : OwnI w lo hi v l) (hl : 0 < l.length) : ∃ g c, v = .slice (some ⟨g, 0, none⟩) l.length c ∧ lo ≤ g ∧ g < hi ∧ ∀ k, k < l.length → w.cell? ⟨g, k, none⟩ = some (.int .i64 (Sw.gat l k)) ∧ w.frozen? ⟨g, k, none⟩ = false := by
  rcases h.1.2 with ⟨hv, hn⟩ | ⟨g, cap, cur, hv, hg, hh, hc, hm, hs, ht⟩
  · omega
  · refine ⟨g, cap, hv, hg, h.2.2 g (by rw [hv]; rfl), fun k hk => ⟨?_, ?_⟩⟩
    · have h1 := h.1
      rw [hv] at h1
      rw [h1.cellAt k (by omega)]; exact ints_get l k hk
    · have h1 := h.1
      rw [hv] at h1
      exact h1.frozenAt k
/-- what is new, and writes elsewhere, leave it alone -/
theorem OwnI.grown {row : Option Nat} (h : OwnI w lo hi v l) (hg : w.grownBy w' row) (hr : ∀ g, row = some g → g < lo ∨ hi ≤ g) : OwnI w' lo hi v l := by
  refine ⟨h.1.kept hg ?_, Nat.le_trans h.2.1 hg.size, h.2.2⟩
  cases hb : v.ownBlock with
  | none => exact .inl rfl
  | some b =>
    refine .inr fun e => ?_
    have h1 := h.2.2 b hb
    have h2 := (h.1.lt b hb).1
    have := hr b e.symm
    omega
theorem OwnI.below {B : Nat} (h : OwnI w lo hi v l) (hb : Below B w w') (hB : hi ≤ B) : OwnI w' lo hi v l := by
  refine ⟨?_, Nat.le_trans h.2.1 hb.size, h.2.2⟩
  rcases h.1.2 with ⟨hv, hn⟩ | ⟨g, cap, cur, hv, hg, hh, r⟩
  · exact ⟨h.1.1, .inl ⟨hv, hn⟩⟩
  · refine ⟨h.1.1, .inr ⟨g, cap, cur, hv, hg, ?_, r⟩⟩
    rw [hb.block g (by have := h.2.2 g (by rw [hv]; rfl); omega)]; exact hh
theorem OwnI.up (h : OwnI w lo hi v l) : OwnI w lo w.heap.size v l := ⟨h.1, Nat.le_refl _, fun g hg => (h.1.lt g hg).2⟩
theorem OwnI.lo_ {lo' : Nat} (h : OwnI w lo hi v l) (hl : lo' ≤ lo) : OwnI w lo' hi v l := by
  refine ⟨⟨h.1.1, ?_⟩, h.2⟩
  rcases h.1.2 with q | ⟨g, cap, cur, hv, hg, r⟩
  · exact .inl q
  · exact .inr ⟨g, cap, cur, hv, by omega, r⟩
theorem OwnI.drewN (h : OwnI w lo hi v l) (n : Nat) : OwnI (w.drewN n) lo hi v l := h
/-- one element written -/
theorem OwnI.set {g c : Nat} (h : OwnI w lo hi (.slice (some ⟨g, 0, none⟩) l.length c) l) (k : Nat) (x : Int) :
    OwnI (w.setCell ⟨g, k, none⟩ (.int .i64 x)) lo hi (.slice (some ⟨g, 0, none⟩) (l.set k x).length c) (l.set k x) ∧ w.grownBy (w.setCell ⟨g, k, none⟩ (.int .i64 x)) (some g) := by
  obtain ⟨h1, h2⟩ := h.1.stored k (.int .i64 x)
  rw [ints_set] at h1
  have hl : (l.set k x).length = l.length := by simp
  refine ⟨⟨?_, Nat.le_trans h.2.1 h2.size, fun b hb => h.2.2 b (by simpa [Value.ownBlock] using hb)⟩, h2⟩
  rw [hl]; exact h1
end
theorem below_of_grown {B : Nat} {w w' : World} {row : Option Nat} (hg : w.grownBy w' row) (hB : B ≤ w.heap.size) (hr : ∀ g, row = some g → B ≤ g) : Below B w w' := (Below.refl _ _).grown hg hB hr
/-- a row just made -/
theorem made_ints {w1 : World} {B n : Nat} {v : Value} (h : w1.ownsRow B 3 1 v n (madeCells (Value.int .i64 0).cells (n * 1)).toList) : OwnI w1 B w1.heap.size v (List.replicate n 0) := by
  have e : (madeCells (Value.int .i64 0).cells (n * 1)).toList = ints (List.replicate n 0) := by
    show (madeCells #[Value.int .i64 0] (n * 1)).toList = _
    rw [toList_madeCells_one, Nat.mul_one]
    unfold ints; rw [List.map_replicate]
  rw [e] at h
  refine OwnI.own ?_
  rw [List.length_replicate]; exact h
end Go.Proofs.YtmghnfadgnolpaaDoor

