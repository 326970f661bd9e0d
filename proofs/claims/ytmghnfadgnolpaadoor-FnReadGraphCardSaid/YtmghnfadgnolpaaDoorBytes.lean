/- An argument of type []byte opened: a row of numbers from 0 to 255. No conditions. -/
import Derived.Test.YtmghnfadgnolpaaDoorRow
namespace Go.Proofs.YtmghnfadgnolpaaDoor
open Go.ChangeShapes Go.WideShapes Go.ChangeAt Go.RowKit
theorem cells_byte : Tryd.prog.cellsOf 5 = 1 := by kernel_rfl
theorem cells_bytes : Tryd.prog.cellsOf 22 = 1 := by kernel_rfl
/-- the slice's cells hold n bytes, below block B -/
def RdB (w : World) (B : Nat) (A : Option Addr) (n : Nat) : Prop := ∀ k, k < n → ∃ ad x, A = some ad ∧ ad.block < B ∧ 0 ≤ x ∧ x ≤ 255 ∧ w.cell? (ad.add k) = some (.int .u8 x)
theorem RdB.below {w w' : World} {B : Nat} {A : Option Addr} {n : Nat} (h : RdB w B A n) (hb : Below B w w') : RdB w' B A n := fun k hk => by
  obtain ⟨ad, x, e, h1, h2, h3, h4⟩ := h k hk
  exact ⟨ad, x, e, h1, h2, h3, (hb.cell (by rw [add_block]; exact h1)).trans h4⟩
theorem RdB.more {w : World} {B B' : Nat} {A : Option Addr} {n : Nat} (h : RdB w B A n) (hB : B ≤ B') : RdB w B' A n := fun k hk => by
  obtain ⟨ad, x, e, h1, r⟩ := h k hk
  exact ⟨ad, x, e, by omega, r⟩
theorem RdB.less {w : World} {B : Nat} {A : Option Addr} {n m : Nat} (h : RdB w B A n) (hm : m ≤ n) : RdB w B A m := fun k hk => h k (by omega)
theorem RdB.at_ {w w1 : World} {A : Option Addr} {n : Nat} (h : RdB w w.heap.size A n) (hb : Below w.heap.size w w1) : RdB w1 w1.heap.size A n := (h.below hb).more hb.size
theorem open_bytes {H : Type} {enc : TypeId × Value → H} {W : World} {r : Reach} {b : Nat} {v : Value} {d : DataW H} {p : List MemPlace} (hv : Value.okWide Tryd.prog W r b 22 v) (h : DataW.Trod enc Tryd.prog W 0 (fun _ => true) true 22 v d p) (hlt : ∀ x ∈ p, x.block < W.heap.size) :
    ∃ (A : Option Addr) (n c : Nat), v = .slice A n c ∧ n ≤ maxLen ∧ n ≤ c ∧ RdB W W.heap.size A n := by
  obtain ⟨A, n, c, rfl⟩ := okWide_slice Tryd.underlying22 hv
  obtain ⟨fuel, hf⟩ := h
  have hf' : DataW.trod enc Tryd.prog W 0 (fun _ => true) true fuel 22 [.slice A n c] = some (d, p) := by simpa [Value.cells] using hf
  rcases open_ints Tryd.underlying22 Tryd.underlying5 cells_byte hf' with ⟨hcs, hx⟩ | ⟨a, len, cap, zs, hcs, _, hl, hm, hz, hx, hc, hw⟩
  · simp only [List.cons.injEq, Value.slice.injEq, and_true] at hcs
    obtain ⟨rfl, rfl, rfl⟩ := hcs
    exact ⟨none, 0, 0, rfl, by simp, Nat.le_refl _, fun k hk => by omega⟩
  · simp only [List.cons.injEq, Value.slice.injEq, and_true] at hcs
    obtain ⟨rfl, rfl, rfl⟩ := hcs
    have hz' : zs.length = c := by simpa using hz
    refine ⟨some a, n, c, rfl, by omega, hl, fun k hk => ⟨a, zs.getD k 0, rfl, ?_, ?_, ?_, hc k (by omega)⟩⟩
    · have hp : p = MemPlace.row a zs.length := by
        have := congrArg Prod.snd hx; exact this
      have := hlt (.cell a.block (a.off + k)) (by rw [hp]; exact MemPlace.mem_row.2 ⟨k, by omega, rfl⟩)
      exact this
    · have hmem : zs.getD k 0 ∈ zs := by
        rw [List.getD_eq_getElem?_getD, List.getElem?_eq_getElem (by omega)]
        exact List.getElem_mem _
      exact (bounds_u8 (hw _ hmem)).1
    · have hmem : zs.getD k 0 ∈ zs := by
        rw [List.getD_eq_getElem?_getD, List.getElem?_eq_getElem (by omega)]
        exact List.getElem_mem _
      exact (bounds_u8 (hw _ hmem)).2
end Go.Proofs.YtmghnfadgnolpaaDoor

