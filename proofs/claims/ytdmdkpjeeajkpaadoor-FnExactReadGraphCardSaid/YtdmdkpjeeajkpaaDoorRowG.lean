/- An argument of type laws.Graph opened. No conditions. -/
import Derived.Test.YtdmdkpjeeajkpaaDoorRow
namespace Go.Proofs.YtdmdkpjeeajkpaaDoor
open Go.ChangeShapes Go.WideShapes Go.ChangeAt Go.RowKit
theorem cells_graph : Tryd.prog.cellsOf 30 = 1 := by kernel_rfl
theorem open_graph {H : Type} {enc : TypeId × Value → H} {W : World} {r : Reach} {b : Nat} {v : Value} {d : DataW H} {p : List MemPlace} (hv : Value.okWide Tryd.prog W r b 30 v) (h : DataW.Trod enc Tryd.prog W 0 (fun _ => true) true 30 v d p) (hlt : ∀ x ∈ p, x.block < W.heap.size) :
    ∃ (A : Option Addr) (c : Nat) (l : List Int), v = .agg #[.slice A l.length c] ∧ l.length ≤ maxLen ∧ RdI W W.heap.size A l ∧ ∀ z ∈ l, (Lit.int .i64 z).wf = true := by
  obtain ⟨cs, rfl, hsz⟩ := okWide_struct Tryd.underlying30 hv
  rw [cells_graph] at hsz
  obtain ⟨l⟩ := cs
  match l, hsz with
  | [c0], _ =>
    obtain ⟨fuel, hf⟩ := h
    obtain ⟨y0, n, hx, _, h0⟩ := trod_struct1 Tryd.underlying30 hf
    simp only [Prod.mk.injEq] at hx
    obtain ⟨_, rfl⟩ := hx
    have h1 : DataW.trod enc Tryd.prog W 0 (fun _ => true) true n 22 [c0] = some y0 := by simpa [Value.cells, cells_ints] using h0
    obtain ⟨A, m, c, e⟩ := slice_of_cells h1
    injection e with e _
    subst e
    obtain ⟨l, rfl, q⟩ := rd_of_slice h1 hlt
    exact ⟨A, c, l, rfl, q⟩
end Go.Proofs.YtdmdkpjeeajkpaaDoor

