/- RankOf of the reference by its contract. No conditions. -/
import Derived.Test.YtmghnfadgnolpaaDoorRank
import Derived.Deep.AppendSrc
namespace Go.Proofs.YtmghnfadgnolpaaDoor
open Go.RowKit
theorem setCells_nil (w : World) (b o : Nat) : w.setCells b o [] = w := by first | rfl | simp [World.setCells]
/-- append([]int{}, x...) -/
theorem run_copy {w : World} {base B : Nat} {A : Option Addr} {c : Nat} {l : List Int} {i0 : TypeInfo} (ty : TypeId) (hi : Tryd.prog.info? 3 = some i0) (hz0 : i0.zero = some (.int .i64 0)) (hz1 : i0.size = 1) (hz2 : i0.bytes = 8)
    (hr : RdI w w.heap.size A l) (hl : l.length ≤ 1048576) (hown : w.ownsRow base 3 1 (.slice (some ⟨B, 0, none⟩) 0 0) 0 []) (hbase : base ≤ w.heap.size) :
    ∃ g cap w', (Builtin.append_ #[23, 23] ty #[.slice (some ⟨B, 0, none⟩) 0 0, .slice A l.length c]).run Tryd.prog w = .ok (.slice (some ⟨g, 0, none⟩) l.length cap) w' ∧ w'.ownsRow base 3 1 (.slice (some ⟨g, 0, none⟩) l.length cap) l.length (ints l) ∧ w.grownBy w' (some B) := by
  by_cases h0 : l.length = 0
  · have e : l = [] := List.length_eq_zero_iff.1 h0
    subst e
    have hs : Src Tryd.prog i0.size 23 (.slice A 0 c) 0 [] w := by
      cases A with
      | none => exact Src.ofNil w Tryd.underlying23 c
      | some a => exact Src.ofSlice w Tryd.underlying23 a 0 c [] (by simp) (fun j u h => by simp at h) (fun u h => by cases h)
    have := run_append_room_src (P := Tryd.prog) w 23 23 ty 3 i0 Tryd.underlying23 hi B 0 0 0 (.slice A 0 c) 0 [] hs (by omega) (fun j h => by simp at h) (fun j h => by simp at h)
    rw [setCells_nil] at this
    exact ⟨B, 0, w, this, hown, ⟨rfl, rfl, rfl, Nat.le_refl _, fun _ _ _ => rfl⟩⟩
  · obtain ⟨ad, rfl, _, _⟩ := hr 0 (by omega)
    obtain ⟨g, cap, w', h1, h2, h3, _, _⟩ := run_append_lies (P := Tryd.prog) w 23 ty base 3 i0 (.int .i64 0) 1 8 Tryd.underlying23 hi hz0 hz1 hz2 rfl (by decide) _ 0 [] hown ad l.length c (ints l) (by rw [ints_len]; omega) (fun j u hu => by
      have hj : j < l.length := by
        rcases Nat.lt_or_ge j l.length with h | h
        · exact h
        · rw [List.getElem?_eq_none (by rw [ints_len]; exact h)] at hu; cases hu
      obtain ⟨ad', e, _, hc⟩ := hr j hj
      injection e with e
      subst e
      rw [ints_get l j hj] at hu
      injection hu with hu
      rw [← hu]; exact hc) (fun u hu => by unfold ints at hu; simp at hu; obtain ⟨x, _, rfl⟩ := hu; rfl) (by omega) (by unfold maxLen; omega) (by omega) hbase _ rfl
    rw [Nat.zero_add] at h1 h2
    exact ⟨g, cap, w', h1, by simpa using h2, h3⟩
theorem wpList_copy {w : World} {ops : Array Oper} {rest : List Oper} {o : Oper} {a : Act} {Q : Exit → Act → World → Prop} (hgd : o.guard = none) (s x : Operand)
    (ho : o.op = .call { callee := .builtin .append, args := #[s, x], argTypes := #[23, 23] }) {base B : Nat} {A : Option Addr} {c : Nat} {l : List Int} {i0 : TypeInfo} (hi : Tryd.prog.info? 3 = some i0) (hz0 : i0.zero = some (.int .i64 0)) (hz1 : i0.size = 1) (hz2 : i0.bytes = 8)
    (hr : RdI w w.heap.size A l) (hl : l.length ≤ 1048576) (hown : w.ownsRow base 3 1 (.slice (some ⟨B, 0, none⟩) 0 0) 0 []) (hbase : base ≤ w.heap.size) (hs : a.eval s = .slice (some ⟨B, 0, none⟩) 0 0) (n : Nat) (hn : l.length = n) (hx : a.eval x = .slice A n c)
    (h : ∀ g cap w', w'.ownsRow base 3 1 (.slice (some ⟨g, 0, none⟩) n cap) n (ints l) → w.grownBy w' (some B) → wpList Tryd.prog ops Q rest (a.put o.dst (.slice (some ⟨g, 0, none⟩) n cap)) w') : wpList Tryd.prog ops Q (o :: rest) a w := by
  subst hn
  refine wpList_plain hgd fun _ hK => ?_
  obtain ⟨g, cap, w', h1, h2, h3⟩ := run_copy (c := c) o.type hi hz0 hz1 hz2 hr hl hown hbase
  unfold Oper.wp execOp
  simp only [ho, resolve, invoke, builtin, Sem.run_bind, Sem.run_pure, Result.andThen_ok, List.map_toArray, List.map_cons, List.map_nil, hs, hx, h1]
  exact hK _ _ (h g cap w' h2 h3)
/-- a row of truths of the call's own: the bits of c -/
def bools (n c : Nat) : List Value := (Sw.tab n fun k => Value.bool (c.testBit k))
theorem bools_len (n c : Nat) : (bools n c).length = n := Sw.tab_len _ _
theorem bools_get {n k : Nat} (c : Nat) (h : k < n) : (bools n c)[k]? = some (.bool (c.testBit k)) := Sw.tab_get _ h
theorem bools_set (n c k : Nat) : (bools n c).set k (.bool true) = bools n (c ||| 2 ^ k) := by
  unfold bools
  rw [Sw.tab_set]
  refine Sw.tab_congr fun j _ => ?_
  show (if j = k then Value.bool true else Value.bool (c.testBit j)) = Value.bool ((c ||| 2 ^ k).testBit j)
  rw [Nat.testBit_or, Sw.tb_two]
  by_cases q : j = k
  · subst q; simp
  · have q2 : ¬ k = j := fun e => q e.symm
    simp [q, q2]
def OwnB (w : World) (lo hi n c : Nat) : Prop := w.ownsRow lo 4 1 (.slice (some ⟨lo, 0, none⟩) n n) n (bools n c) ∧ lo < hi ∧ hi ≤ w.heap.size
theorem OwnB.cell {w : World} {lo hi n c : Nat} (h : OwnB w lo hi n c) (k : Nat) (hk : k < n) : w.cell? ⟨lo, k, none⟩ = some (.bool (c.testBit k)) ∧ w.frozen? ⟨lo, k, none⟩ = false :=
  ⟨by rw [h.1.cellAt k (by omega)]; exact bools_get c hk, h.1.frozenAt k⟩
theorem OwnB.grown {w w' : World} {lo hi n c : Nat} {row : Option Nat} (h : OwnB w lo hi n c) (hg : w.grownBy w' row) (hr : row ≠ some lo) : OwnB w' lo hi n c :=
  ⟨h.1.kept hg (.inr fun e => hr e.symm), h.2.1, Nat.le_trans h.2.2 hg.size⟩
theorem OwnB.set {w : World} {lo hi n c : Nat} (h : OwnB w lo hi n c) (k : Nat) : OwnB (w.setCell ⟨lo, k, none⟩ (.bool true)) lo hi n (c ||| 2 ^ k) ∧ w.grownBy (w.setCell ⟨lo, k, none⟩ (.bool true)) (some lo) := by
  obtain ⟨h1, h2⟩ := h.1.stored k (.bool true)
  rw [bools_set] at h1
  exact ⟨⟨h1, h.2.1, Nat.le_trans h.2.2 h2.size⟩, h2⟩
/-- the reference's two rows, and what was there before -/
def RS (w wr : World) (h1 h2 g cap n : Nat) (f : Nat → Nat) (c : Nat) : Prop := OwnF wr w.heap.size h1 (.slice (some ⟨g, 0, none⟩) n cap) n f ∧ OwnB wr h1 h2 n c ∧ Below w.heap.size w wr ∧ w.heap.size ≤ g ∧ g < h1
theorem RS.cells {w wr : World} {h1 h2 g cap n c : Nat} {f : Nat → Nat} (h : RS w wr h1 h2 g cap n f c) (k : Nat) (hk : k < n) : wr.cell? ⟨g, k, none⟩ = some (.int .i64 (f k : Nat)) ∧ wr.frozen? ⟨g, k, none⟩ = false := by
  obtain ⟨g', c', e, _, _, hc⟩ := h.1.form (by omega)
  injection e with e1 _ _
  injection e1 with e1
  injection e1 with e1 _ _
  subst e1
  exact hc k hk
theorem RS.put {w wr : World} {h1 h2 g cap n c : Nat} {f : Nat → Nat} (h : RS w wr h1 h2 g cap n f c) (k x : Nat) (y : Int) (hy : y = (x : Nat)) : RS w (wr.setCell ⟨g, k, none⟩ (.int .i64 y)) h1 h2 g cap n (fun j => if j = k then x else f j) c := by
  subst hy
  obtain ⟨hO, hB, hb, hz, hz2⟩ := h
  obtain ⟨q1, q2⟩ := hO.set k x
  exact ⟨q1, hB.grown q2 (by intro e; injection e with e; omega), hb.trans (below_of_grown q2 hb.size (fun g h => by injection h with h; omega)), hz, hz2⟩
theorem RS.use {w wr : World} {h1 h2 g cap n c : Nat} {f : Nat → Nat} (h : RS w wr h1 h2 g cap n f c) (k : Nat) : RS w (wr.setCell ⟨h1, k, none⟩ (.bool true)) h1 h2 g cap n f (c ||| 2 ^ k) := by
  obtain ⟨hO, hB, hb, hz, hz2⟩ := h
  obtain ⟨q1, q2⟩ := hB.set k
  exact ⟨hO.grown q2 (fun g h => by injection h with h; omega), q1, hb.trans (below_of_grown q2 hb.size (fun g h => by injection h with h; omega)), hz, hz2⟩
theorem RS.draw {w wr : World} {h1 h2 g cap n c : Nat} {f : Nat → Nat} (h : RS w wr h1 h2 g cap n f c) : RS w wr.drew h1 h2 g cap n f c := ⟨h.1, h.2.1, bdr h.2.2.1 1, h.2.2.2⟩
theorem RS.congr {w wr : World} {h1 h2 g cap n c : Nat} {f f' : Nat → Nat} (h : RS w wr h1 h2 g cap n f c) (e : ∀ k, k < n → f k = f' k) : RS w wr h1 h2 g cap n f' c := by
  obtain ⟨hO, r⟩ := h
  refine ⟨?_, r⟩
  unfold OwnF at hO ⊢
  rw [Sw.tab_congr e] at hO; exact hO
theorem info_bool : (Tryd.prog.info? 4).map (fun i => (i.zero, i.size, i.bytes)) = some (some (.bool false), 1, 1) := by kernel_rfl
theorem made_bools {w1 : World} {B n : Nat} (h : w1.ownsRow B 4 1 (.slice (some ⟨B, 0, none⟩) n n) n (madeCells (Value.bool false).cells (n * 1)).toList) : OwnB w1 B w1.heap.size n 0 := by
  have e : (madeCells (Value.bool false).cells (n * 1)).toList = bools n 0 := by
    show (madeCells #[Value.bool false] (n * 1)).toList = _
    rw [toList_madeCells_one, Nat.mul_one]
    unfold bools
    apply List.ext_getElem?
    intro j
    by_cases hj : j < n
    · rw [Sw.tab_get _ hj]; simp [hj]
    · rw [List.getElem?_eq_none (by simp; omega), List.getElem?_eq_none (by rw [Sw.tab_len]; omega)]
  rw [e] at h
  exact ⟨h, (h.lt B rfl).2, Nat.le_refl _⟩
end Go.Proofs.YtmghnfadgnolpaaDoor

