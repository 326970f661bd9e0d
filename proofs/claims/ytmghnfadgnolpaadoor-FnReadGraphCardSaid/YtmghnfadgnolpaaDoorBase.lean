/- Words for memory that all walks of this seat share: a slice that reads as a list of ints, a graph's value, and small laws on the bits of an int. No conditions. -/
import Derived.Test.YtmghnfadgnolpaaDoorChecked
import Derived.Test.YtmghnfadgnolpaaDoorMath
import Derived.WalkKit
import Derived.WalkSpells
import Derived.WalkLawsBesides
import Derived.Lib.Hide
import Derived.Deep.QuietTactic
import Derived.BigQuiet
namespace Go.Proofs.YtmghnfadgnolpaaDoor
open Go.RowKit

/-- the slice's cells hold the ints l, below block B -/
def RdI (w : World) (B : Nat) (A : Option Addr) (l : List Int) : Prop := ∀ k, k < l.length → ∃ ad, A = some ad ∧ ad.block < B ∧ w.cell? (ad.add k) = some (.int .i64 (Sw.gat l k))
theorem add_block (a : Addr) (n : Nat) : (a.add n).block = a.block := by unfold Addr.add; split <;> rfl
theorem RdI.below {w w' : World} {B : Nat} {A : Option Addr} {l : List Int} (h : RdI w B A l) (hb : Below B w w') : RdI w' B A l := fun k hk => by
  obtain ⟨ad, e, h1, h2⟩ := h k hk
  exact ⟨ad, e, h1, (hb.cell (by rw [add_block]; exact h1)).trans h2⟩
theorem RdI.more {w : World} {B B' : Nat} {A : Option Addr} {l : List Int} (h : RdI w B A l) (hB : B ≤ B') : RdI w B' A l := fun k hk => by
  obtain ⟨ad, e, h1, h2⟩ := h k hk
  exact ⟨ad, e, by omega, h2⟩

/-- the slice's cells hold the valid graph G, below block B -/
def RdG (w : World) (B : Nat) (ad : Addr) (G : List Nat) : Prop := ad.block < B ∧ ∀ k, k < G.length → w.cell? (ad.add k) = some (.int .i64 (Sw.nb G k : Nat))
theorem RdG.blk {w : World} {B : Nat} {ad : Addr} {G : List Nat} (h : RdG w B ad G) : ad.block < B := h.1
theorem RdG.cell {w : World} {B : Nat} {ad : Addr} {G : List Nat} (h : RdG w B ad G) : ∀ k, k < G.length → w.cell? (ad.add k) = some (.int .i64 (Sw.nb G k : Nat)) := h.2
theorem RdG.below {w w' : World} {B : Nat} {ad : Addr} {G : List Nat} (h : RdG w B ad G) (hb : Below B w w') : RdG w' B ad G :=
  ⟨h.blk, fun k hk => (hb.cell (by rw [add_block]; exact h.blk)).trans (h.cell k hk)⟩
theorem RdG.more {w : World} {B B' : Nat} {ad : Addr} {G : List Nat} (h : RdG w B ad G) (hB : B ≤ B') : RdG w B' ad G := ⟨by have := h.blk; omega, h.cell⟩
theorem RdG.of {w : World} {B : Nat} {A : Option Addr} {G : List Nat} (hG : Sw.GVN G) (h : RdI w B A (Sw.toI G)) : ∃ ad, A = some ad ∧ RdG w B ad G := by
  obtain ⟨ad, e, h1, _⟩ := h 0 (by rw [Sw.toI_len]; exact hG.pos)
  refine ⟨ad, e, h1, fun k hk => ?_⟩
  obtain ⟨ad', e', _, h2⟩ := h k (by rw [Sw.toI_len]; exact hk)
  rw [e] at e'
  injection e' with e'
  subst e'
  rw [Sw.gat_toI] at h2; exact h2
theorem RdG.toI {w : World} {B : Nat} {ad : Addr} {G : List Nat} (h : RdG w B ad G) : RdI w B (some ad) (Sw.toI G) := fun k hk =>
  ⟨ad, rfl, h.blk, by rw [Sw.gat_toI]; exact h.cell k (by rw [Sw.toI_len] at hk; exact hk)⟩

/-! ## bits of an int that is not negative -/
theorem ofInt_i64 (a : Nat) (ha : a < 9223372036854775808) : (BitVec.ofInt 64 (a : Int)).toNat = a := by
  rw [BitVec.ofInt_natCast, BitVec.toNat_ofNat]; exact Nat.mod_eq_of_lt (by omega)
theorem i64_and (a b : Nat) (ha : a < 9223372036854775808) (hb : b < 9223372036854775808) : bits .and .i64 (a : Int) (b : Int) = ((a &&& b : Nat) : Int) := by
  have hx : a &&& b < 2 ^ 63 := Nat.and_lt_two_pow _ (by omega)
  show IntKind.i64.wrap ((BitVec.ofInt 64 (a : Int) &&& BitVec.ofInt 64 (b : Int)).toNat : Int) = _
  rw [BitVec.toNat_and, ofInt_i64 a ha, ofInt_i64 b hb, IntKind.wrap_i64]
  omega
theorem i64_or (a b : Nat) (ha : a < 9223372036854775808) (hb : b < 9223372036854775808) : bits .or .i64 (a : Int) (b : Int) = ((a ||| b : Nat) : Int) := by
  have hx : a ||| b < 2 ^ 63 := Nat.or_lt_two_pow (by omega) (by omega)
  show IntKind.i64.wrap ((BitVec.ofInt 64 (a : Int) ||| BitVec.ofInt 64 (b : Int)).toNat : Int) = _
  rw [BitVec.toNat_or, ofInt_i64 a ha, ofInt_i64 b hb, IntKind.wrap_i64]
  omega
theorem i64_xor (a b : Nat) (ha : a < 9223372036854775808) (hb : b < 9223372036854775808) : bits .xor .i64 (a : Int) (b : Int) = ((a ^^^ b : Nat) : Int) := by
  have hx : a ^^^ b < 2 ^ 63 := Nat.xor_lt_two_pow (by omega) (by omega)
  show IntKind.i64.wrap ((BitVec.ofInt 64 (a : Int) ^^^ BitVec.ofInt 64 (b : Int)).toNat : Int) = _
  rw [BitVec.toNat_xor, ofInt_i64 a ha, ofInt_i64 b hb, IntKind.wrap_i64]
  omega
theorem i64_and_one (x : Int) (h0 : 0 ≤ x) (h1 : x < 9223372036854775808) : bits .and .i64 x 1 = x % 2 := by
  obtain ⟨n, rfl⟩ := Int.eq_ofNat_of_zero_le h0
  have := i64_and n 1 (by omega) (by decide)
  rw [show ((1 : Nat) : Int) = 1 from rfl] at this
  rw [this, Nat.and_one_is_mod]; omega
theorem shr_nonneg (s k : Nat) : 0 ≤ (s : Int) / 2 ^ k := Int.ediv_nonneg (by omega) (Int.pow_nonneg (by decide))
theorem shr_nat (s k : Nat) : (s : Int) / 2 ^ k = ((s / 2 ^ k : Nat) : Int) := by simp
/-- 's>>k&1' -/
theorem shr_and_one (s k : Nat) (hs : s < 1099511627776) : bits .and .i64 ((s : Int) / 2 ^ k) 1 = (Sw.bit s k : Nat) := by
  rw [i64_and_one _ (shr_nonneg s k) (by rw [shr_nat]; have := Nat.div_le_self s (2 ^ k); omega), shr_nat]
  unfold Sw.bit; omega
theorem below1 {w : World} (o : Obj) : Below w.heap.size w (w.alloc o) := (Below.refl _ _).alloc (Nat.le_refl _) o
theorem shr_bit (s k : Nat) (hs : s < 1099511627776) : (s.testBit k = true ∧ bits .and .i64 ((s : Int) / 2 ^ k) 1 = 1) ∨ (s.testBit k = false ∧ bits .and .i64 ((s : Int) / 2 ^ k) 1 = 0) := by
  rw [shr_and_one s k hs, Sw.bit_eq]
  by_cases h : s.testBit k <;> simp [h]
theorem lt63 {n : Nat} {s : Nat} (hn : n ≤ 9) (h : s < 2 ^ n) : s < 9223372036854775808 := by have := Sw.pow_le9 hn; omega
theorem lt40 {n : Nat} {s : Nat} (hn : n ≤ 9) (h : s < 2 ^ n) : s < 1099511627776 := by have := Sw.pow_le9 hn; omega
theorem int_bit (x : Int) (k : Nat) (h0 : 0 ≤ x) (h1 : x < 1099511627776) : (Sw.ibit x k = 1 ∧ bits .and .i64 (x / 2 ^ k) 1 = 1) ∨ (Sw.ibit x k = 0 ∧ bits .and .i64 (x / 2 ^ k) 1 = 0) := by
  obtain ⟨n, rfl⟩ := Int.eq_ofNat_of_zero_le h0
  rw [Sw.ibit_nat, shr_and_one n k (by omega)]
  have := Sw.bit_lt n k
  omega
theorem pow9 {n : Nat} (h : n ≤ 9) : (2 : Int) ^ n ≤ 512 := by
  have h1 := Sw.pow_le9 h
  have h2 : ((2 ^ n : Nat) : Int) ≤ 512 := by omega
  simpa using h2
theorem pow1 (n : Nat) : 1 ≤ (2 : Int) ^ n := by
  have h1 := Nat.two_pow_pos n
  have h2 : (1 : Int) ≤ ((2 ^ n : Nat) : Int) := by omega
  simpa using h2
theorem bdr {B : Nat} {a w : World} (h : Below B a w) (n : Nat) : Below B a (w.drewN n) := ⟨h.os, h.tape, h.output, h.size, h.block⟩
/-- a callee that leaves the world alone, met in a region that draws its order -/
theorem q_left {P : Program} {f : FuncId} {args : Array Value} {w : World} {n : Nat} {v : Value} (h : Calls P f args (w.drewN n) fun e w' => e = .returned v ∧ w.drewN n = w') :
    Calls P f args (w.drewN n) fun e w'' => e = .returned v ∧ ∃ m, w'' = w.drewN m := h.mono fun _ _ ⟨he, hm⟩ => ⟨he, n, hm.symm⟩
/-- behind a call: the box that was laid ahead of it holds what it held -/
theorem box_after {w w1 : World} {v : Value} {t : TypeId} (h : Below (w.alloc (.cells #[v] t)).heap.size (w.alloc (.cells #[v] t)) w1) :
    Below w.heap.size w w1 ∧ w1.cell? ⟨w.heap.size, 0, none⟩ = some v ∧ w.heap.size < w1.heap.size := by
  refine ⟨(below1 _).trans (h.mono (by simp)), ?_, ?_⟩
  · rw [h.cell (by simp)]; simp [go_sem]
  · have := h.size; simp at this; omega
/-- the same behind a call in the midst of things -/
theorem box_next {w w1 w2 : World} {v : Value} (hb : Below w.heap.size w w1) (hc : w1.cell? ⟨w.heap.size, 0, none⟩ = some v) (hz : w.heap.size < w1.heap.size) (h : Below w1.heap.size w1 w2) :
    Below w.heap.size w w2 ∧ w2.cell? ⟨w.heap.size, 0, none⟩ = some v ∧ w.heap.size < w2.heap.size :=
  ⟨hb.trans (h.mono (by omega)), (h.cell hz).trans hc, by have := h.size; omega⟩
theorem RdI.at_ {w w1 : World} {A : Option Addr} {l : List Int} (h : RdI w w.heap.size A l) (hb : Below w.heap.size w w1) : RdI w1 w1.heap.size A l := (h.below hb).more hb.size
theorem RdG.at_ {w w1 : World} {ad : Addr} {G : List Nat} (h : RdG w w.heap.size ad G) (hb : Below w.heap.size w w1) : RdG w1 w1.heap.size ad G := (h.below hb).more hb.size
theorem below2 {w : World} (o1 o2 : Obj) : Below w.heap.size w ((w.alloc o1).alloc o2) := (below1 o1).alloc (by simp) o2
theorem below3 {w : World} (o1 o2 o3 : Obj) : Below w.heap.size w (((w.alloc o1).alloc o2).alloc o3) := (below2 o1 o2).alloc (by simp; omega) o3
/-- a new block of one cell -/
theorem cell_new (w : World) (v : Value) (t : TypeId) : (w.alloc (.cells #[v] t)).cell? ⟨w.heap.size, 0, none⟩ = some v := by simp [go_sem]
theorem free_new (w : World) (v : Value) (t : TypeId) : (w.alloc (.cells #[v] t)).frozen? ⟨w.heap.size, 0, none⟩ = false := by simp [go_sem]
/-- three boxes laid ahead of a call -/
theorem box3_after {w w1 : World} {v0 v1 v2 : Value} {t0 t1 t2 : TypeId} (h : Below (((w.alloc (.cells #[v0] t0)).alloc (.cells #[v1] t1)).alloc (.cells #[v2] t2)).heap.size (((w.alloc (.cells #[v0] t0)).alloc (.cells #[v1] t1)).alloc (.cells #[v2] t2)) w1) :
    Below w.heap.size w w1 ∧ w.heap.size + 2 < w1.heap.size ∧ w1.cell? ⟨w.heap.size, 0, none⟩ = some v0 ∧ w1.cell? ⟨w.heap.size + 1, 0, none⟩ = some v1 ∧ w1.cell? ⟨w.heap.size + 1 + 1, 0, none⟩ = some v2 ∧
      w1.frozen? ⟨w.heap.size + 1, 0, none⟩ = false ∧ w1.frozen? ⟨w.heap.size + 1 + 1, 0, none⟩ = false := by
  have hz := h.size
  simp only [World.size_alloc] at hz
  refine ⟨(below3 _ _ _).trans (h.mono (by simp; omega)), by omega, ?_, ?_, ?_, ?_, ?_⟩
  · rw [h.cell (by simp; omega)]; simp [go_sem]
  · rw [h.cell (by simp)]; simp [go_sem]
  · rw [h.cell (by simp)]; simp [go_sem]
  · rw [h.frozen (by simp)]; simp [go_sem]
  · rw [h.frozen (by simp)]; simp [go_sem]
theorem undrew {B : Nat} {w w' : World} (h : Below B w.drew w') : Below B w w' := ⟨h.os, h.tape, h.output, h.size, h.block⟩
theorem beq_nat_zero (n : Nat) : (((n : Nat) : Int) == 0) = decide (n = 0) := by
  by_cases h : n = 0
  · subst h; rfl
  · rw [decide_eq_false h, beq_eq_false_iff_ne]; omega
theorem beq_nat (m n : Nat) : (((m : Nat) : Int) == ((n : Nat) : Int)) = decide (m = n) := by
  by_cases h : m = n
  · subst h; simp
  · rw [decide_eq_false h, beq_eq_false_iff_ne]; omega
theorem bne_nat (m n : Nat) : (((m : Nat) : Int) != ((n : Nat) : Int)) = decide (m ≠ n) := by
  by_cases h : m = n
  · subst h; simp
  · rw [decide_eq_true h, bne_iff_ne]; omega
end Go.Proofs.YtmghnfadgnolpaaDoor

