/- LineSet of the program by its contract. No conditions. -/
import Derived.Test.YtmghnfadgnolpaaDoorRank2
import Derived.Test.YtmghnfadgnolpaaDoorMath4
import Derived.Test.YtmghnfadgnolpaaDoorGv
import Derived.Laws.CopyOwn
namespace Go.Proofs.YtmghnfadgnolpaaDoor
open Go.RowKit
theorem Sw.pow29' {n : Nat} (h : n ≤ 9) : (2 : Nat) ^ n ≤ 512 := Nat.pow_le_pow_right (by decide) h
theorem i64_andNot (x k : Nat) (hx : x < 9223372036854775808) (hk : k < 63) : bits .andNot .i64 (x : Int) ((2 ^ k : Nat) : Int) = ((Sw.setBit x k false : Nat) : Int) := by
  have h2 : (2 : Nat) ^ k < 9223372036854775808 := Nat.pow_lt_pow_right (m := k) (n := 63) (by decide) hk
  have e : (BitVec.ofInt 64 (x : Int) &&& ~~~(BitVec.ofInt 64 ((2 ^ k : Nat) : Int))).toNat = Sw.setBit x k false := by
    apply Nat.eq_of_testBit_eq
    intro j
    rw [BitVec.toNat_and, Nat.testBit_and, Sw.tb_setBit, ofInt_i64 x hx, BitVec.toNat_not, ofInt_i64 _ h2, show 2 ^ 64 - 1 - 2 ^ k = 2 ^ 64 - (2 ^ k + 1) by omega, Nat.testBit_two_pow_sub_succ (by omega), Sw.tb_two]
    by_cases q : j = k
    · subst q; rw [if_pos rfl]; simp
    · have q2 : ¬ k = j := fun e => q e.symm
      rw [if_neg q, decide_eq_false q2]
      by_cases hj : j < 64
      · rw [decide_eq_true hj]; simp
      · have : x.testBit j = false := Nat.testBit_lt_two_pow (Nat.lt_of_lt_of_le (show x < 2 ^ 63 by omega) (Nat.pow_le_pow_right (by decide) (by omega)))
        simp [this]
  have hlt : Sw.setBit x k false < 9223372036854775808 := Sw.setBit_lt (n := 63) false (by omega) hk
  show IntKind.i64.wrap ((BitVec.ofInt 64 (x : Int) &&& ~~~(BitVec.ofInt 64 ((2 ^ k : Nat) : Int))).toNat : Int) = _
  rw [e, IntKind.wrap_i64]; omega
/-- two boxes laid ahead of a call -/
theorem box2_after {w w1 : World} {v0 v1 : Value} {t0 t1 : TypeId} (h : Below ((w.alloc (.cells #[v0] t0)).alloc (.cells #[v1] t1)).heap.size ((w.alloc (.cells #[v0] t0)).alloc (.cells #[v1] t1)) w1) :
    Below w.heap.size w w1 ∧ w.heap.size + 1 < w1.heap.size ∧ w1.cell? ⟨w.heap.size, 0, none⟩ = some v0 ∧ w1.cell? ⟨w.heap.size + 1, 0, none⟩ = some v1 ∧ w1.frozen? ⟨w.heap.size + 1, 0, none⟩ = false := by
  have hz := h.size
  simp only [World.size_alloc] at hz
  refine ⟨(below2 _ _).trans (h.mono (by simp; omega)), by omega, ?_, ?_, ?_⟩
  · rw [h.cell (by simp; omega)]; simp [go_sem]
  · rw [h.cell (by simp)]; simp [go_sem]
  · rw [h.frozen (by simp)]; simp [go_sem]
theorem row_of_made {w : World} {base B n : Nat} {e : TypeId} {xs : List Value} (h : w.ownsRow base e 1 (.slice (some ⟨B, 0, none⟩) n n) n xs) : w.heap[B]? = some (.cells xs.toArray e (0, 0)) := by
  rcases h.2 with ⟨hv, _⟩ | ⟨g, cap, cur, hv, hb, hg, h1, h2, h3, h4⟩
  · cases hv
  · injection hv with e1 _ e2
    injection e1 with e1
    injection e1 with e1
    subst e1 e2
    have : cur.toList.take (n * 1) = cur.toList := List.take_of_length_le (by rw [Array.length_toList]; omega)
    rw [this] at h4
    rw [← h4]; simpa using hg
theorem made_of_row {w : World} {base B n : Nat} {e : TypeId} {xs : List Value} (h : w.heap[B]? = some (.cells xs.toArray e (0, 0))) (hb : base ≤ B) (hn : xs.length = n) (hm : n ≤ maxLen) : w.ownsRow base e 1 (.slice (some ⟨B, 0, none⟩) n n) n xs :=
  ⟨by rw [hn, Nat.mul_one], .inr ⟨B, n, xs.toArray, rfl, hb, h, Nat.le_refl _, hm, by simp [hn], by rw [Nat.mul_one]; exact List.take_of_length_le (by simp; omega)⟩⟩
/-- a row that the call made at block b, its result's cell ahead of it, and what was there before -/
def LI (w wr : World) (b n : Nat) (f : Nat → Nat) : Prop := OwnF wr b (b + 1) (.slice (some ⟨b, 0, none⟩) n n) n f ∧ Below w.heap.size w wr ∧ wr.cell? ⟨w.heap.size + 1, 0, none⟩ = some (.slice none 0 0) ∧ wr.frozen? ⟨w.heap.size + 1, 0, none⟩ = false ∧ w.heap.size + 1 < b
theorem OwnI.store_far' {w : World} {lo hi : Nat} {v : Value} {l : List Int} (h : OwnI w lo hi v l) {b : Nat} (hb : b < lo) (u : Value) : OwnI (w.setCell ⟨b, 0, none⟩ u) lo hi v l := by
  have g1 : w.grownBy (w.setCell ⟨b, 0, none⟩ u) (some b) := ⟨rfl, rfl, rfl, by simp [World.setCell], fun k _ hk => Below.heap_setCell _ _ _ _ (fun e => hk (by rw [e]))⟩
  exact h.grown g1 (fun g h => by injection h with h; omega)
theorem LI.cells {w wr : World} {b n : Nat} {f : Nat → Nat} (h : LI w wr b n f) (k : Nat) (hk : k < n) : wr.cell? ⟨b, k, none⟩ = some (.int .i64 (f k : Nat)) ∧ wr.frozen? ⟨b, k, none⟩ = false := by
  obtain ⟨g', c', e, _, _, hc⟩ := h.1.form (by omega)
  injection e with e1 _ _
  injection e1 with e1
  injection e1 with e1 _ _
  subst e1
  exact hc k hk
theorem LI.grow {w wr w2 : World} {b n : Nat} {f g : Nat → Nat} (h : LI w wr b n f) (hO : OwnF w2 b (b + 1) (.slice (some ⟨b, 0, none⟩) n n) n g) (hg : wr.grownBy w2 (some b)) : LI w w2 b n g := by
  obtain ⟨_, hb, hc, hf, hz⟩ := h
  have hsz := hb.size
  have hlt : w.heap.size + 1 < wr.heap.size := World.block_lt_of_cell? wr _ hc
  refine ⟨hO, hb.trans (below_of_grown hg hb.size (fun g h => by injection h with h; omega)), hg.cell hc (by intro e; injection e with e; simp at e; omega), ?_, hz⟩
  rw [World.frozen?_of_block (hg.block (w.heap.size + 1) hlt (by intro e; injection e with e; omega))]; exact hf
theorem LI.put {w wr : World} {b n : Nat} {f : Nat → Nat} (h : LI w wr b n f) (k x : Nat) (y : Int) (hy : y = (x : Nat)) : LI w (wr.setCell ⟨b, k, none⟩ (.int .i64 y)).drew b n (fun j => if j = k then x else f j) := by
  subst hy
  obtain ⟨h1, h2⟩ := h.1.set k x
  exact h.grow (w2 := World.drew _) h1 (grown_drew h2)
theorem LI.congr {w wr : World} {b n : Nat} {f g : Nat → Nat} (h : LI w wr b n f) (e : ∀ k, k < n → f k = g k) : LI w wr b n g := by
  obtain ⟨hO, r⟩ := h
  refine ⟨?_, r⟩
  unfold OwnF at hO ⊢
  rw [Sw.tab_congr e] at hO; exact hO
theorem splice_all {α : Type} {L cs : List α} (h : L.length = cs.length) : splice L 0 cs = cs := by
  unfold splice
  rw [List.take_zero, List.nil_append, Nat.zero_add, List.drop_eq_nil_of_le (by omega), List.append_nil]
theorem LI.start {w w1 w2 w3 : World} {G : List Nat} {zs xs : List Value} (Hxs : xs = ints (Sw.toI G)) (h9 : G.length ≤ 9) (hzl : zs.length = G.length) (hb2 : Below w.heap.size w w2) (hz : w.heap.size + 1 < w1.heap.size) (hs2 : w1.heap.size < w2.heap.size)
    (HG : w3.heap[w1.heap.size]? = some (.cells (splice zs 0 xs).toArray 3 (0, 0))) (hb3 : Below w1.heap.size w2 w3) (hc1 : w2.cell? ⟨w.heap.size + 1, 0, none⟩ = some (.slice none 0 0)) (hf1 : w2.frozen? ⟨w.heap.size + 1, 0, none⟩ = false) : LI w w3 w1.heap.size G.length (Sw.nb G) := by
  have hxl : xs.length = G.length := by rw [Hxs, ints_len, Sw.toI_len]
  rw [splice_all (by omega)] at HG
  have hs3 := hb3.size
  have e : Sw.toI G = Sw.toI (Sw.tab G.length (Sw.nb G)) := by
    apply Sw.gat_ext (by rw [toI_tab_len, Sw.toI_len])
    intro j hj
    rw [Sw.toI_len] at hj
    rw [gat_toI_tab _ hj, Sw.gat_toI]
  refine ⟨?_, hb2.trans (hb3.mono (by omega)), (hb3.cell (by exact hz)).trans hc1, (hb3.frozen (by exact hz)).trans hf1, hz⟩
  have h := made_of_row (n := G.length) HG (Nat.le_refl _) hxl (by unfold maxLen; omega)
  refine ⟨?_, by omega, fun g hg => by simp [Value.ownBlock] at hg; omega⟩
  rw [toI_tab_len, ← e, ← Hxs]; exact h
theorem LI.done {w wr : World} {b n : Nat} {f g : Nat → Nat} (h : LI w wr b n f) (e : f = g) (u : Value) :
    OwnI (wr.setCell ⟨w.heap.size + 1, 0, none⟩ u) w.heap.size (wr.setCell ⟨w.heap.size + 1, 0, none⟩ u).heap.size (.slice (some ⟨b, 0, none⟩) n n) (Sw.toI (Sw.tab n g)) ∧ Below w.heap.size w (wr.setCell ⟨w.heap.size + 1, 0, none⟩ u) ∧ (wr.setCell ⟨w.heap.size + 1, 0, none⟩ u).cell? ⟨w.heap.size + 1, 0, none⟩ = some u := by
  subst e
  obtain ⟨hO, hb, hc, hf, hz⟩ := h
  exact ⟨((OwnI.store_far' hO hz u).up.lo_ (by omega)), hb.setCell (p := ⟨w.heap.size + 1, 0, none⟩) (by simp) u, World.cell?_setCell_same' wr ⟨w.heap.size + 1, 0, none⟩ u (by rw [hc]; rfl)⟩
theorem int_one : (Tryd.prog.info? 3).map (·.size) = some 1 := by kernel_rfl
end Go.Proofs.YtmghnfadgnolpaaDoor

