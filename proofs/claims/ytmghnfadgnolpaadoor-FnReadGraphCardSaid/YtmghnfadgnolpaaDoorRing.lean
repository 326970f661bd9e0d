/- RingOf of the program and of the reference, each by its contract. No conditions. -/
import Derived.Test.YtmghnfadgnolpaaDoorJoin
import Derived.Test.YtmghnfadgnolpaaDoorMath2
import Derived.Deep.AppendLies
import Derived.Deep.RegionLaw
namespace Go.Proofs.YtmghnfadgnolpaaDoor
open Go.RowKit
theorem free_after {w w1 : World} {v : Value} {t : TypeId} (h : Below (w.alloc (.cells #[v] t)).heap.size (w.alloc (.cells #[v] t)) w1) : w1.frozen? ⟨w.heap.size, 0, none⟩ = false := by
  rw [h.frozen (by simp)]; simp [go_sem]
/-- the last store: into the result's own cell -/
theorem OwnI.store_far {w : World} {lo hi : Nat} {v : Value} {l : List Int} (h : OwnI w lo hi v l) {b : Nat} (hb : b < lo) (u : Value) : OwnI (w.setCell ⟨b, 0, none⟩ u) lo hi v l := by
  have g1 : w.grownBy (w.setCell ⟨b, 0, none⟩ u) (some b) := ⟨rfl, rfl, rfl, by simp [World.setCell], fun k _ hk => Below.heap_setCell _ _ _ _ (fun e => hk (by rw [e]))⟩
  exact h.grown g1 (fun g h => by injection h with h; omega)
theorem frozen_setCell (w : World) (a b : Addr) (u : Value) : (w.setCell a u).frozen? b = w.frozen? b := by simp [go_sem]
/-- behind an append of one new element, what lay below the row's own blocks -/
theorem append_past {w wr w2 : World} {o : Obj} {row : Option Nat} {B : Nat} (hg : (wr.alloc o).grownBy w2 row) (hr : ∀ g, row = some g → B + 2 ≤ g) (hz : B + 1 < wr.heap.size) (hb : Below B w wr) :
    Below B w w2 ∧ wr.heap.size < w2.heap.size ∧ w2.cell? ⟨B, 0, none⟩ = wr.cell? ⟨B, 0, none⟩ ∧ w2.frozen? ⟨B, 0, none⟩ = wr.frozen? ⟨B, 0, none⟩ ∧ w2.cell? ⟨B + 1, 0, none⟩ = wr.cell? ⟨B + 1, 0, none⟩ ∧ w2.frozen? ⟨B + 1, 0, none⟩ = wr.frozen? ⟨B + 1, 0, none⟩ := by
  have hs : (wr.alloc o).heap.size = wr.heap.size + 1 := by simp
  have key : ∀ k, k < B + 2 → w2.heap[k]? = wr.heap[k]? := fun k hk => (hg.block k (by omega) (fun e => by have := hr k e.symm; omega)).trans (Below.heap_alloc wr o k (by omega))
  have hsz := hg.size
  exact ⟨hb.trans ⟨hg.os, hg.tape, hg.output, by omega, fun k hk => key k (by omega)⟩, by omega, World.cell?_of_block (key B (by omega)), World.frozen?_of_block (key B (by omega)), World.cell?_of_block (key (B + 1) (by omega)), World.frozen?_of_block (key (B + 1) (by omega))⟩
theorem ints_tab_succ (n : Nat) (f : Nat → Nat) : ints (Sw.toI (Sw.tab (n + 1) f)) = ints (Sw.toI (Sw.tab n f)) ++ [.int .i64 (f n : Nat)] := by
  rw [Sw.tab_succ]; unfold Sw.toI ints; simp
theorem specRingOf (p : Int) (w : World) :
    Calls Tryd.prog 33 #[.int .i64 p] w fun e w' => ∃ v, e = .returned (.agg #[v]) ∧ OwnI w' w.heap.size w'.heap.size v (Sw.vRing p) ∧ Below w.heap.size w w' := by
  by_cases hp : 3 ≤ p ∧ p ≤ 9
  · obtain ⟨n, rfl⟩ := Int.eq_ofNat_of_zero_le (show 0 ≤ p by omega)
    have h3 : 3 ≤ n := by omega
    have h9 : n ≤ 9 := by omega
    clear hp
    have HV := Lib.hid (Sw.vRing_yes h3 h9)
    obtain ⟨i0, hi, hz0, hz1, hz2⟩ := info_parts info_int
    go_enter Tryd.func33, Tryd.ntmps33
    go_wp2_with fail
    refine (l1In_yes _ _ _ _ (by omega) (by omega)).mono ?_
    rintro e w' ⟨rfl, rfl⟩
    go_wp2_with fail
    go_loopw [4] (fun i wr => ∃ k : Nat, k ≤ n ∧ i = .int .i64 k ∧ ∃ (A : Option Addr) (c : Nat), OwnI wr (w.heap.size + 2) wr.heap.size (.slice A k c) (Sw.toI (Sw.tab k (Sw.ringF n))) ∧ Below w.heap.size w wr ∧ w.heap.size + 1 < wr.heap.size ∧ wr.cell? ⟨w.heap.size, 0, none⟩ = some (.slice none 0 0) ∧ wr.frozen? ⟨w.heap.size, 0, none⟩ = false ∧ wr.cell? ⟨w.heap.size + 1, 0, none⟩ = some (.slice A k c) ∧ wr.frozen? ⟨w.heap.size + 1, 0, none⟩ = false) (fun i _ => (n - intOf i).toNat)
    case atStart =>
      refine ⟨0, by omega, rfl, none, 0, ?_, below2 _ _, by simp, by simp [go_sem], by simp [go_sem], by simp [go_sem], by simp [go_sem]⟩
      have := OwnI.nil (lo := w.heap.size + 2) ((w.alloc (.cells #[.slice none 0 0] 25)).alloc (.cells #[.slice none 0 0] 25))
      exact this
    case round =>
      obtain ⟨k, hk, rfl, A, c, hO, hb, hz, hc0, hf0, hc1, hf1⟩ := hrel
      by_cases hlt : k < n
      · have hw1 : IntKind.i64.wrap ((k : Int) + 1) = (k : Int) + 1 := IntWalk.i64_in _ (by omega)
        have hw2 : IntKind.i64.wrap ((k : Int) + n) = (k : Int) + n := IntWalk.i64_in _ (by omega)
        have hw3 : IntKind.i64.wrap ((k : Int) + n - 1) = (k : Int) + n - 1 := IntWalk.i64_in _ (by omega)
        obtain ⟨a, ha⟩ : ∃ a : Nat, a = (k + 1) % n := ⟨_, rfl⟩
        obtain ⟨b, hbb⟩ : ∃ b : Nat, b = (k + n - 1) % n := ⟨_, rfl⟩
        have ha9 : a < 9 := by have := Nat.mod_lt (k + 1) (show 0 < n by omega); omega
        have hb9 : b < 9 := by have := Nat.mod_lt (k + n - 1) (show 0 < n by omega); omega
        have hm1 : ((k : Int) + 1).tmod n = (a : Int) := by rw [ha]; rw [Int.tmod_eq_emod_of_nonneg (by omega)]; simp
        have hm2 : ((k : Int) + n - 1).tmod n = (b : Int) := by
          rw [hbb, Int.tmod_eq_emod_of_nonneg (by omega)]
          rw [show (k : Int) + n - 1 = ((k + n - 1 : Nat) : Int) by omega]; simp
        have hn0 : ¬ n = 0 := by omega
        have hpa : (2 : Int) ^ a ≤ 512 := pow9 (by omega)
        have hpa1 := pow1 a
        have hpb : (2 : Int) ^ b ≤ 512 := pow9 (by omega)
        have hpb1 := pow1 b
        have hs1 : IntKind.i64.wrap ((2 : Int) ^ a) = 2 ^ a := IntWalk.i64_in _ (by omega)
        have hs2 : IntKind.i64.wrap ((2 : Int) ^ b) = 2 ^ b := IntWalk.i64_in _ (by omega)
        have hs3 : IntKind.i64.wrap ((2 : Int) ^ a + 2 ^ b) = (Sw.ringF n k : Nat) := by
          rw [IntWalk.i64_in _ (by omega)]; unfold Sw.ringF; rw [← ha, ← hbb, pow_nat, pow_nat]; omega
        have HA := Lib.hid ha
        have HB := Lib.hid hbb
        clear ha hbb
        have hb1 : ∀ x : Nat, x < 9 → x ≤ 64 := fun x h => by omega
        have hO' := hO.1
        go_wp2_with fail
        rw [toI_tab_len] at hO'
        have HO := Lib.hid hO'
        have HL : Hid (∀ g, (Value.slice A k c).ownBlock = some g → w.heap.size + 2 ≤ g) := fun g hg => (HO.out.lt g hg).1
        clear hO hO'
        go_region_law (go_loud (refine step_append_lies _ rfl _ _ 23 rfl (w.heap.size + 2) 3 i0 (.int .i64 0) 1 8 Tryd.underlying23 hi hz0 hz1 hz2 rfl (by decide) (.slice A k c) k _ rfl (by exact HO.out.alloc _) ⟨wr.heap.size, 0, none⟩ 1 1 [.int .i64 (Sw.ringF n k : Nat)] rfl rfl (by exact World.news_of_block (heap_alloc_new wr _)) (by intro u hu; simp at hu; subst hu; rfl) (by decide) (by unfold maxLen; omega) (by omega) (by simp; omega) _ rfl ?_; intro g cp w2 hown2 hgr2 hat2 hlt2; obtain ⟨hd1, hd2, hd3, hd4, hd5, hd6⟩ := append_past (B := w.heap.size) (grown_undrew hgr2) HL.out hz hb; rw [hc0] at hd3; rw [hf0] at hd4; rw [hc1] at hd5; rw [hf1] at hd6))
        all_goals
          go_wp2_with fail
          go_roundw
          case rel =>
            have h2 : OwnI w2 (w.heap.size + 2) w2.heap.size (.slice (some ⟨g, 0, none⟩) (k + 1) cp) (Sw.toI (Sw.tab (k + 1) (Sw.ringF n))) := by
              refine OwnI.own ?_
              rw [toI_tab_len, ints_tab_succ]; exact hown2
            refine ⟨k + 1, by omega, by go_num, some ⟨g, 0, none⟩, cp, (h2.store_far (b := w.heap.size + 1) (by omega) _).up, hd1.setCell (by simp) _, by simp; omega, ?_, ?_, ?_, ?_⟩
            · rw [World.cell?_of_block (Below.heap_setCell _ _ _ _ (by simp))]; exact hd3
            · rw [World.frozen?_of_block (Below.heap_setCell _ _ _ _ (by simp))]; exact hd4
            · exact World.cell?_setCell_same' _ _ _ (by rw [hd5]; rfl)
            · rw [frozen_setCell]; exact hd6
          case measure => simp [intOf]; omega
      · have : k = n := by omega
        subst this
        have hO' := hO.store_far (b := w.heap.size)
        have HF := Lib.hid (fun u => ((hO.store_far (b := w.heap.size) (by omega) u).up.lo_ (lo' := w.heap.size) (by omega)))
        have HB := Lib.hid (fun u => hb.setCell (p := ⟨w.heap.size, 0, none⟩) (Nat.le_refl _) u)
        have HC := Lib.hid (fun u => World.cell?_setCell_same' wr ⟨w.heap.size, 0, none⟩ u (by rw [hc0]; rfl))
        clear hO hO' hb
        go_wp2_with fail
        exact bodyPost_ret (v := .agg #[.slice A k c]) (by have q := HC.out (.slice A k c); simp [results, Tryd.results33, go_sem, q]) rfl ⟨_, rfl, by rw [HV.out]; exact HF.out _, HB.out _⟩
  · have HV := Lib.hid (Sw.vRing_no hp)
    have hN : OwnI (w.alloc (.cells #[.slice none 0 0] 25)) w.heap.size (w.alloc (.cells #[.slice none 0 0] 25)).heap.size (.slice none 0 0) (Sw.vRing p) := by rw [HV.out]; exact OwnI.nil _
    have HN := Lib.hid hN
    clear hN
    go_enter Tryd.func33, Tryd.ntmps33
    go_wp2_with fail
    refine (l1In_no _ _ _ _ (by omega)).mono ?_
    rintro e w' ⟨rfl, rfl⟩
    go_wp2_with fail
    exact bodyPost_ret (v := .agg #[.slice none 0 0]) (by simp [results, Tryd.results33, go_sem]) rfl ⟨_, rfl, HN.out, below1 _⟩
end Go.Proofs.YtmghnfadgnolpaaDoor

