/- The helpers of the exact laws, each by its contract: copies, comparisons, sizes, marks. Conditions: lists of at most 2^20 ints. -/
import Derived.Test.YtdmdkpjeeajkpaaDoorOwn
namespace Go.Proofs.YtdmdkpjeeajkpaaDoor
open Go.RowKit
theorem szIntS (A : Option Addr) (n c : Nat) (x : Int) (hx0 : -1 ≤ x) (hx : x ≤ 1048576) (hn : n ≤ maxLen) (w : World) :
    Calls Tryd.prog 22 #[.slice A n c, .int .i64 x] w fun e w' => e = .returned (.int .i64 (if x - n < 0 then -1 else x - n)) ∧ w = w' := by
  unfold maxLen at hn
  by_cases h : x - n < 0
  · go_enter Tryd.func22, Tryd.ntmps22
    go_wp2
    go_ret
    exact ⟨rfl, rfl⟩
  · go_enter Tryd.func22, Tryd.ntmps22
    go_wp2
    go_ret
    exact ⟨rfl, rfl⟩
theorem szGraph_no (A : Option Addr) (n c : Nat) (x : Int) (hx0 : -1 ≤ x) (hx : x ≤ 1048576) (hn : n ≤ maxLen) (h : x - n < 0) (w : World) :
    Calls Tryd.prog 10 #[.agg #[.slice A n c], .int .i64 x] w fun e w' => e = .returned (.int .i64 (-1)) ∧ Below w.heap.size w w' := by
  go_enter Tryd.func10, Tryd.ntmps10
  go_wp2_with fail
  refine (szIntS A n c x hx0 hx hn _).mono ?_
  rw [if_pos h]
  rintro e w' ⟨rfl, rfl⟩
  go_wp2_with fail
  go_ret
  exact ⟨rfl, below1 _⟩
theorem szGraph_yes (A : Option Addr) (n c : Nat) (x : Int) (hx0 : -1 ≤ x) (hx : x ≤ 1048576) (hn : n ≤ maxLen) (h : 0 ≤ x - n) (w : World) :
    Calls Tryd.prog 10 #[.agg #[.slice A n c], .int .i64 x] w fun e w' => e = .returned (.int .i64 (x - n)) ∧ Below w.heap.size w w' := by
  go_enter Tryd.func10, Tryd.ntmps10
  go_wp2_with fail
  refine (szIntS A n c x hx0 hx hn _).mono ?_
  rw [if_neg (by omega)]
  rintro e w' ⟨rfl, rfl⟩
  go_wp2_with fail
  go_ret
  exact ⟨rfl, below1 _⟩
theorem toIntS (l : List Int) (A : Option Addr) (c : Nat) (hl : l.length ≤ 1048576) (w : World) (hr : RdI w w.heap.size A l) :
    Calls Tryd.prog 26 #[.slice A l.length c] w fun e w' => ∃ v, e = .returned v ∧ OwnI w' w.heap.size w'.heap.size v l ∧ Below w.heap.size w w' := by
  obtain ⟨i0, hi, hz0, hz1, hz2⟩ := info_parts info_int
  go_enter Tryd.func26, Tryd.ntmps26
  go_wp2_with (at_make; refine wpList_make_full _ rfl _ _ 22 rfl w.heap.size 3 i0 (.int .i64 0) 1 Tryd.underlying22 hi hz0 hz1 .i64 .i64 _ _ l.length rfl rfl rfl rfl (by rw [hz2]; omega) (by unfold maxLen; omega) (Nat.le_refl _) ?_; intro w1 hown hgrow)
  have hO := made_ints hown
  have hb := below_of_grown (B := w.heap.size) hgrow (Nat.le_refl _) (fun g h => by cases h)
  clear hown hgrow
  go_loopw [4] (fun i wr => ∃ k : Nat, k ≤ l.length ∧ i = .int .i64 k ∧ ∃ l' : List Int, OwnI wr w.heap.size w1.heap.size (.slice (some ⟨w.heap.size, 0, none⟩) l'.length l.length) l' ∧ l'.length = l.length ∧ (∀ j, j < k → Sw.gat l' j = Sw.gat l j) ∧ Below w.heap.size w wr) (fun i _ => (l.length - intOf i).toNat)
  case atStart => exact ⟨0, by omega, rfl, List.replicate l.length 0, by rw [List.length_replicate]; exact hO, by simp, fun j hj => by omega, hb⟩
  case round =>
    obtain ⟨k, hk, rfl, l', hown, hlen, hd, hbl⟩ := hrel
    clear hb hO
    by_cases hlt : k < l.length
    · obtain ⟨ad, rfl, hbb, hc⟩ := (hr.below hbl) k hlt
      have hold : wr.cell? ⟨w.heap.size, k, none⟩ = some (.int .i64 (Sw.gat l' k)) ∧ wr.frozen? ⟨w.heap.size, k, none⟩ = false := by
        obtain ⟨g, c', e, _, _, h4⟩ := hown.form (by omega)
        injection e with e1 _ _
        injection e1 with e1
        injection e1 with e1 _ _
        subst e1
        exact h4 k (by omega)
      obtain ⟨hold, hfr⟩ := hold
      have hset := hown.set k (Sw.gat l k)
      have HS := Lib.hid hset
      have HD := Lib.hid hd
      have HL := Lib.hid hlen
      clear hset hd hlen hown
      go_wp2
      go_roundw
      case rel =>
        have hlen := HL.out
        refine ⟨k + 1, by omega, by go_num, l'.set k (Sw.gat l k), HS.out.1, by rw [List.length_set]; exact hlen, fun j hj => ?_, hbl.trans (below_of_grown HS.out.2 hbl.size (fun g h => by injection h with h; omega))⟩
        rw [Sw.gat_set _ _ _ _ (by omega)]
        by_cases q : j = k
        · subst q; rw [if_pos rfl]
        · rw [if_neg q]; exact HD.out j (by omega)
      case measure => simp [intOf]; omega
    · have : k = l.length := by omega
      subst this
      have e : l' = l := Sw.gat_ext hlen fun j hj => hd j (by omega)
      subst e
      clear hd hlen
      go_wp2
      go_ret
      exact ⟨_, rfl, hown.up, hbl⟩
theorem toGraph (l : List Int) (A : Option Addr) (c : Nat) (hl : l.length ≤ 1048576) (w : World) (hr : RdI w w.heap.size A l) :
    Calls Tryd.prog 12 #[.agg #[.slice A l.length c]] w fun e w' => ∃ v, e = .returned (.agg #[v]) ∧ OwnI w' w.heap.size w'.heap.size v l ∧ Below w.heap.size w w' := by
  go_enter Tryd.func12, Tryd.ntmps12
  go_wp2_with fail
  refine (toIntS l A c hl _ (hr.at_ (below3 _ _ _))).mono ?_
  rintro e w1 ⟨v, rfl, hown, hb⟩
  obtain ⟨hb, hz, h0, h1, h2, f1, f2⟩ := box3_after hb
  have hown2 := hown.lo_ (lo' := w.heap.size + 3) (by simp)
  have hfin : ∀ u : Value, OwnI ((w1.setCell ⟨w.heap.size + 1 + 1, 0, none⟩ u).setCell ⟨w.heap.size + 1, 0, none⟩ u) w.heap.size ((w1.setCell ⟨w.heap.size + 1 + 1, 0, none⟩ u).setCell ⟨w.heap.size + 1, 0, none⟩ u).heap.size v l ∧ Below w.heap.size w ((w1.setCell ⟨w.heap.size + 1 + 1, 0, none⟩ u).setCell ⟨w.heap.size + 1, 0, none⟩ u) ∧ ((w1.setCell ⟨w.heap.size + 1 + 1, 0, none⟩ u).setCell ⟨w.heap.size + 1, 0, none⟩ u).cell? ⟨w.heap.size + 1, 0, none⟩ = some u := by
    intro u
    have g1 : w1.grownBy (w1.setCell ⟨w.heap.size + 1 + 1, 0, none⟩ u) (some (w.heap.size + 1 + 1)) := ⟨rfl, rfl, rfl, by simp [World.setCell], fun k _ hk => Below.heap_setCell _ _ _ _ (fun e => hk (by rw [e]))⟩
    have g2 : (w1.setCell ⟨w.heap.size + 1 + 1, 0, none⟩ u).grownBy ((w1.setCell ⟨w.heap.size + 1 + 1, 0, none⟩ u).setCell ⟨w.heap.size + 1, 0, none⟩ u) (some (w.heap.size + 1)) := ⟨rfl, rfl, rfl, by simp [World.setCell], fun k _ hk => Below.heap_setCell _ _ _ _ (fun e => hk (by rw [e]))⟩
    exact ⟨(((hown2.grown g1 (fun g h => by injection h with h; omega)).grown g2 (fun g h => by injection h with h; omega)).up).lo_ (by omega), (hb.setCell (by simp; omega) _).setCell (by simp) _, World.cell?_setCell_same' _ _ _ (by rw [World.cell?_of_block (Below.heap_setCell _ _ _ _ (by simp))]; rw [h1]; rfl)⟩
  obtain ⟨A', c', rfl, _⟩ := hown.rd
  have HF := Lib.hid hfin
  clear hown hown2 hfin
  go_wp2_with fail
  exact bodyPost_ret (v := .agg #[.slice A' l.length c']) (by have q := (HF.out (.slice A' l.length c')).2.2; simp [results, Tryd.results12, go_sem, q]) rfl ⟨_, rfl, (HF.out _).1, (HF.out _).2.1⟩
theorem eqIntS (l : List Int) (A B : Option Addr) (c d : Nat) (hl : l.length ≤ 1048576) (w : World) (h1 : RdI w w.heap.size A l) (h2 : RdI w w.heap.size B l) :
    Calls Tryd.prog 19 #[.slice A l.length c, .slice B l.length d] w fun e w' => e = .returned (.bool true) ∧ ∃ n, w' = w.drewN n := by
  go_enter Tryd.func19, Tryd.ntmps19
  go_wp2_with fail
  go_loopw [5] (fun i wr => ∃ k : Nat, k ≤ l.length ∧ i = .int .i64 k ∧ ∃ n, wr = w.drewN n) (fun i _ => (l.length - intOf i).toNat)
  case atStart => exact ⟨0, by omega, rfl, 0, rfl⟩
  case round =>
    obtain ⟨k, hk, rfl, n, rfl⟩ := hrel
    by_cases hlt : k < l.length
    · obtain ⟨ad, rfl, hb1, hc1⟩ := h1 k hlt
      obtain ⟨bd, rfl, hb2, hc2⟩ := h2 k hlt
      go_wp2
      go_quiet (fail)
      go_wp2
      go_roundw
      case rel => exact ⟨k + 1, by omega, by go_num, _, rfl⟩
      case measure => simp [intOf]; omega
    · have : k = l.length := by omega
      subst this
      go_wp2
      go_ret
      exact ⟨rfl, n, rfl⟩
theorem eqGraph (l : List Int) (A B : Option Addr) (c d : Nat) (hl : l.length ≤ 1048576) (w : World) (h1 : RdI w w.heap.size A l) (h2 : RdI w w.heap.size B l) :
    Calls Tryd.prog 7 #[.agg #[.slice A l.length c], .agg #[.slice B l.length d]] w fun e w' => e = .returned (.bool true) ∧ Below w.heap.size w w' := by
  go_enter Tryd.func7, Tryd.ntmps7
  go_wp2_with fail
  refine (eqIntS l A B c d hl _ (h1.at_ (below2 _ _)) (h2.at_ (below2 _ _))).mono ?_
  rintro e w1 ⟨rfl, n, rfl⟩
  go_wp2_with fail
  go_ret
  exact ⟨rfl, bdr (below2 _ _) _⟩
theorem markIntS (l : List Int) (lo hi : Nat) (v : Value) (x : Int) (hl : l.length ≤ 1048576) (hx0 : 0 ≤ x) (hx : x ≤ 1048576) (w : World) (h : OwnI w lo hi v l) :
    Calls Tryd.prog 20 #[v, .int .i64 x] w fun e w' => e = .returned (.int .i64 (x + l.length)) ∧ OwnI w' lo hi v (Sw.tab l.length fun k => x + k) ∧ w.grownBy w' v.ownBlock := by
  by_cases h0 : 0 < l.length
  · obtain ⟨g, c, rfl, hg1, hg2, _⟩ := h.form h0
    go_enter Tryd.func20, Tryd.ntmps20
    go_wp2_with fail
    go_loopw [1, 5] (fun y i wr => ∃ k : Nat, k ≤ l.length ∧ i = .int .i64 k ∧ y = .int .i64 (x + k) ∧ ∃ l' : List Int, OwnI wr lo hi (.slice (some ⟨g, 0, none⟩) l'.length c) l' ∧ l'.length = l.length ∧ (∀ j, j < k → Sw.gat l' j = x + j) ∧ w.grownBy wr (some g)) (fun _ i _ => (l.length - intOf i).toNat)
    case atStart => exact ⟨0, by omega, rfl, by simp, l, h, rfl, fun j hj => by omega, World.grownBy.refl _ _⟩
    case round =>
      obtain ⟨k, hk, rfl, rfl, l', hown, hlen, hd, hgr⟩ := hrel
      by_cases hlt : k < l.length
      · have hold : wr.cell? ⟨g, k, none⟩ = some (.int .i64 (Sw.gat l' k)) ∧ wr.frozen? ⟨g, k, none⟩ = false := by
          obtain ⟨g', c', e, _, _, h4⟩ := hown.form (by omega)
          injection e with e1 _ _
          injection e1 with e1
          injection e1 with e1 _ _
          subst e1
          exact h4 k (by omega)
        obtain ⟨hold, hfr⟩ := hold
        have HS := Lib.hid (hown.set k (x + k))
        have HD := Lib.hid hd
        have HL := Lib.hid hlen
        clear hd hlen hown
        go_wp2
        go_roundw
        case rel =>
          have hlen := HL.out
          refine ⟨k + 1, by omega, by go_num, val_i (by omega), l'.set k (x + k), HS.out.1, by rw [List.length_set]; exact hlen, fun j hj => ?_, World.grownBy.trans hgr HS.out.2⟩
          rw [Sw.gat_set _ _ _ _ (by omega)]
          by_cases q : j = k
          · subst q; rw [if_pos rfl]
          · rw [if_neg q]; exact HD.out j (by omega)
        case measure => simp [intOf]; omega
      · have : k = l.length := by omega
        subst this
        have e : l' = Sw.tab l.length fun k => x + k := Sw.gat_ext (by rw [hlen, Sw.tab_len]) fun j hj => by rw [hd j (by omega), Sw.gat_tab _ (by omega)]
        subst e
        clear hd hlen
        go_wp2
        go_ret
        exact ⟨rfl, by rw [Sw.tab_len] at hown; exact hown, hgr⟩
  · have hl0 : l = [] := List.eq_nil_of_length_eq_zero (by omega)
    subst hl0
    obtain ⟨A, c, rfl, _⟩ := h.rd
    go_enter Tryd.func20, Tryd.ntmps20
    go_wp2_with fail
    refine wp_loop_rounds 1 ?_
    rw [rounds_succ]
    go_wp2
    go_ret
    exact ⟨ret_i (by simp), h, World.grownBy.refl _ _⟩
end Go.Proofs.YtdmdkpjeeajkpaaDoor

