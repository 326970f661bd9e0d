/- What the frame of every law's row needs: an argument opened (a graph, a list of ints, a list of bytes), the arguments behind the call, the end 'true'. No conditions. -/
import Derived.Test.YtmghnfadgnolpaaDoorOwn
import Derived.Test.YtmghnfadgnolpaaDoorRows
import Derived.ProofKit
import Derived.OpenShut
import Derived.ChangeSame
namespace Go.Proofs.YtmghnfadgnolpaaDoor
open Go.ChangeShapes Go.WideShapes Go.ChangeAt Go.RowKit
theorem own_knob : ownKnob Tryd.prog.godebug = none := by kernel_rfl
theorem laid_out : laidOutB Tryd.prog = true := by kernel_rfl
theorem cells_int : Tryd.prog.cellsOf 3 = 1 := by kernel_rfl
theorem cells_ints : Tryd.prog.cellsOf 23 = 1 := by kernel_rfl
section
variable {H : Type} {enc : TypeId × Value → H} {W W' : World}
theorem trodAll_below : ∀ {ts : List TypeId} {vs : List Value} {ds : List (DataW H)} {ps : List MemPlace}, (∀ t ∈ ts, Tryd.prog.readableRec t = true ∧ t < Tryd.prog.types.size) →
    DataW.TrodAll enc Tryd.prog W 0 (fun _ => true) true ts vs ds ps → Below W.heap.size W W' → (∀ x ∈ ps, x.block < W.heap.size) →
    DataW.TrodAll enc Tryd.prog W' 0 (fun b => decide (b < W.heap.size)) true ts vs ds ps
  | [], vs, ds, ps, _, h, _, _ => by
    obtain ⟨rfl, rfl, rfl⟩ := trodAll_nil h
    exact trodAll_mk0
  | t :: ts, vs, ds, ps, ht, h, hb, hlt => by
    obtain ⟨v, vs', d, ds', p, q, rfl, rfl, rfl, h1, h2⟩ := trodAll_cons h
    obtain ⟨hr, hz⟩ := ht t List.mem_cons_self
    exact trodAll_cons_mk (Below.trod laid_out hr hz h1 hb fun x hx => hlt x (List.mem_append_left _ hx)) (trodAll_below (fun t ht' => ht t (List.mem_cons_of_mem _ ht')) h2 hb fun x hx => hlt x (List.mem_append_right _ hx))
/-- the end of every law -/
theorem post_true {fn : Func} {s : ChangeSpec} {args : Array Value} {ds : List (DataW H)} {p : List MemPlace} (hv : s.vars = []) (hr : fn.resultTypes = #[4])
    (hs : s.fn H (ds ++ []) = { results := [.lit (.bool true)], args := ds }) (ht : (fn.params.toList.all fun t => Tryd.prog.readableRec t && decide (t < Tryd.prog.types.size)) = true)
    (hW : DataW.Whole enc Tryd.prog fn.params.toList s.vars false W args.toList ds [] p) (hA : DataW.TrodAll enc Tryd.prog W 0 (fun _ => true) true fn.params.toList args.toList ds p) (hb : Below W.heap.size W W') :
    s.post enc Tryd.prog fn false true false false W args (.bool true) W' := by
  refine ⟨ds, [], p, [], p, [], hW, ?_, ?_, ?_, hb.frame _, fun h => by cases h⟩
  · rw [hs, hr]
    exact trodAll_mk1 (shut_bool Tryd.underlying4 true)
  · rw [hs]
    exact trodAll_below (fun t h => by have := List.all_eq_true.1 ht t h; rw [Bool.and_eq_true, decide_eq_true_eq] at this; exact this) hA hb fun x hx => hW.lt x hx
  · rw [hs, hv]; rfl
theorem rd_of_slice {A : Option Addr} {n c fuel : Nat} {x : DataW H × List MemPlace} (h : DataW.trod enc Tryd.prog W 0 (fun _ => true) true fuel 23 [.slice A n c] = some x) (hlt : ∀ p ∈ x.2, p.block < W.heap.size) :
    ∃ l : List Int, n = l.length ∧ l.length ≤ maxLen ∧ RdI W W.heap.size A l ∧ ∀ z ∈ l, (Lit.int .i64 z).wf = true := by
  rcases open_ints Tryd.underlying23 Tryd.underlying3 cells_int h with ⟨hcs, hx⟩ | ⟨a, len, cap, zs, hcs, _, hl, hm, hz, hx, hc, hw⟩
  · simp only [List.cons.injEq, Value.slice.injEq, and_true] at hcs
    obtain ⟨rfl, rfl, rfl⟩ := hcs
    exact ⟨[], rfl, by simp, fun k hk => by simp at hk, fun z hz => by simp at hz⟩
  · simp only [List.cons.injEq, Value.slice.injEq, and_true] at hcs
    obtain ⟨rfl, rfl, rfl⟩ := hcs
    have hz' : zs.length = c := by simpa using hz
    have hlen : (zs.take n).length = n := by rw [List.length_take]; omega
    refine ⟨zs.take n, hlen.symm, by omega, fun k hk => ⟨a, rfl, ?_, ?_⟩, fun z hz => hw z (List.mem_of_mem_take hz)⟩
    · have := hlt (.cell a.block (a.off + k)) (by rw [hx]; exact MemPlace.mem_row.2 ⟨k, by omega, rfl⟩)
      exact this
    · rw [hc k (by omega)]
      unfold Sw.gat
      simp only [List.getD_eq_getElem?_getD]
      rw [List.getElem?_take, if_pos (by omega)]
theorem slice_of_cells {fuel : Nat} {cs : List Value} {x : DataW H × List MemPlace} (h : DataW.trod enc Tryd.prog W 0 (fun _ => true) true fuel 23 cs = some x) : ∃ A n c, cs = [.slice A n c] := by
  rcases open_ints Tryd.underlying23 Tryd.underlying3 cells_int h with ⟨hcs, _⟩ | ⟨a, len, cap, zs, hcs, _⟩
  · exact ⟨_, _, _, hcs⟩
  · exact ⟨_, _, _, hcs⟩
theorem open_intlist {r : Reach} {b : Nat} {v : Value} {d : DataW H} {p : List MemPlace} (hv : Value.okWide Tryd.prog W r b 23 v) (h : DataW.Trod enc Tryd.prog W 0 (fun _ => true) true 23 v d p) (hlt : ∀ x ∈ p, x.block < W.heap.size) :
    ∃ (A : Option Addr) (c : Nat) (l : List Int), v = .slice A l.length c ∧ l.length ≤ maxLen ∧ RdI W W.heap.size A l ∧ ∀ z ∈ l, (Lit.int .i64 z).wf = true := by
  obtain ⟨A, n, c, rfl⟩ := okWide_slice Tryd.underlying23 hv
  obtain ⟨fuel, hf⟩ := h
  obtain ⟨l, rfl, h1, h2, h3⟩ := rd_of_slice (by simpa [Value.cells] using hf) hlt
  exact ⟨A, c, l, rfl, h1, h2, h3⟩
end
end Go.Proofs.YtmghnfadgnolpaaDoor

