/- l20Graph: weak contract: a list of at most ten ints, whatever the bytes are. Conditions: at most 1000 numbers picked before. -/
import Derived.Test.YtmghnfadgnolpaaDoorRg0
namespace Go.Proofs.YtmghnfadgnolpaaDoor
open Go.RowKit
theorem grid_len (x1 x2 : Int) (h1 : 0 ≤ x1) (h2 : x1 < 3) (h3 : 0 ≤ x2) (h4 : x2 < 3) : 1 ≤ (Sw.vGrid (1 + x1) (1 + x2)).length ∧ (Sw.vGrid (1 + x1) (1 + x2)).length ≤ 9 := by
  have q1 : x1 = 0 ∨ x1 = 1 ∨ x1 = 2 := by omega
  have q2 : x2 = 0 ∨ x2 = 1 ∨ x2 = 2 := by omega
  refine ⟨?_, Sw.vGrid_len _ _⟩
  rcases q1 with rfl | rfl | rfl <;> rcases q2 with rfl | rfl | rfl <;> decide +kernel
theorem ring_len (x1 : Int) (h1 : 0 ≤ x1) (h2 : x1 < 6) : 1 ≤ (Sw.vRing (3 + x1)).length ∧ (Sw.vRing (3 + x1)).length ≤ 9 := by
  have q1 : x1 = 0 ∨ x1 = 1 ∨ x1 = 2 ∨ x1 = 3 ∨ x1 = 4 ∨ x1 = 5 := by omega
  refine ⟨?_, Sw.vRing_len _⟩
  rcases q1 with rfl | rfl | rfl | rfl | rfl | rfl <;> decide +kernel
/-- '[]int{2, 0}' -/
theorem lit_two {w W : World} {h m c K : Nat} {A : Option Addr} (g : Gs0 w W h A m c K) :
    Gs0 w (W.alloc (.cells #[.int .i64 2, .int .i64 0] 3)) h A m c K ∧ RdJ (W.alloc (.cells #[.int .i64 2, .int .i64 0] 3)) (w.heap.size + 1) (some ⟨W.heap.size, 0, none⟩) [2, 0] := by
  have hlt := g.lt
  refine ⟨g.grown (World.grownBy_alloc W _ none) (fun b e => by cases e), fun k hk => ⟨_, rfl, by show w.heap.size + 1 ≤ W.heap.size; omega, by simp, ?_⟩⟩
  have : k = 0 ∨ k = 1 := by simp at hk; omega
  rcases this with rfl | rfl <;> simp [go_sem, Addr.add, Sw.gat]
set_option maxRecDepth 100000 in
set_option maxHeartbeats 8000000 in
theorem l20Graph (h m c p : Nat) (A : Option Addr) (n : Nat) (hp : p ≤ 1000) (hn : n ≤ 1000) (w : World) (hR : Rdr w h A m c p) :
    Calls Tryd.prog 14 #[.pointer (some ⟨h, 0, none⟩), .int .i64 n] w (GraphPost w h A m c (p + 200)) := by
  have H0 := Lib.hid (Gs0.start hR 25)
  obtain ⟨i0, hi, hz0, hz1, hz2⟩ := info_parts info_int
  clear hR
  go_enter Tryd.func14, Tryd.ntmps14
  go_wp2_with fail
  obtain ⟨p0, hp0, hR0⟩ := H0.out.2.1
  refine (pick h m c p0 A 9 (by omega) (by decide) _ hR0).mono ?_
  rintro e W1 ⟨v1, rfl, v1_0, v1_1, hR1, hg1⟩
  have v1_1 := v1_1 (by decide)
  have H1 := Lib.hid (H0.out.pick hR1 hg1 (by omega))
  clear hR0 hp0 p0 hR1 hg1
  go_wp2_with fail
  obtain ⟨p0, hp0, hR0⟩ := H1.out.2.1
  refine (pick h m c p0 A 3 (by omega) (by decide) _ hR0).mono ?_
  rintro e W2 ⟨v2, rfl, v2_0, v2_1, hR1, hg1⟩
  have v2_1 := v2_1 (by decide)
  have H2 := Lib.hid (H1.out.pick hR1 hg1 (by omega))
  clear hR0 hp0 p0 hR1 hg1
  by_cases h2 : 0 < v2
  · go_wp2_with fail
    obtain ⟨p0, hp0, hR0⟩ := H2.out.2.1
    refine (pick h m c p0 A 7 (by omega) (by decide) _ hR0).mono ?_
    rintro e W3 ⟨v3, rfl, v3_0, v3_1, hR1, hg1⟩
    have v3_1 := v3_1 (by decide)
    have H3 := Lib.hid (H2.out.pick hR1 hg1 (by omega))
    clear hR0 hp0 p0 hR1 hg1
    clear H0 H1 H2
    obtain ⟨N, hN⟩ : ∃ N : Nat, 1 + v3 = (N : Int) := ⟨1 + v3.toNat, by omega⟩
    have hN1 : 1 ≤ N := by omega
    have hN9 : N ≤ 9 := by omega
    go_wp2_with (at_make; go_loud (refine wpList_make_full _ rfl _ _ 23 rfl W3.heap.size 3 i0 (.int .i64 0) 1 Tryd.underlying23 hi hz0 hz1 .i64 .i64 _ _ N rfl rfl rfl rfl (by rw [hz2]; omega) (by unfold maxLen; omega) (Nat.le_refl _) ?_); intro W4 hown hgrow)
    have HG4 := Lib.hid (Gst.start H3.out (made_ints hown) (by rw [List.length_replicate]) hgrow 25)
    obtain ⟨r, hr⟩ : ∃ r, r = W3.heap.size := ⟨_, rfl⟩
    obtain ⟨b, hb⟩ : ∃ b, b = W4.heap.size := ⟨_, rfl⟩
    rw [← hr, ← hb] at HG4
    clear hown hgrow hi hz0 hz1 hz2
    simp only [← hr, ← hb]
    clear hr hb
    obtain ⟨p0, hp0, hR0⟩ := HG4.out.1.2.1
    refine (pick h m c p0 A 4 (by omega) (by decide) _ hR0).mono ?_
    rintro e W5 ⟨v4, rfl, v4_0, v4_1, hR1, hg1⟩
    have v4_1 := v4_1 (by decide)
    have HG5 := Lib.hid (HG4.out.pick hR1 hg1 (by omega))
    clear hR0 hp0 p0 hR1 hg1
    obtain ⟨⟨_, _, hcb, hfb, _⟩, hcx, hfx, _, _⟩ := HG5.out
    go_wp2_with fail
    go_loopw [8] (fun a wr => ∃ k : Nat, k ≤ N ∧ a = .int .i64 k ∧ Gst w wr h A m c (p + 4 + 9 * k) b (some ⟨r, 0, none⟩) N N) (fun a _ => (N - intOf a).toNat)
    case atStart => exact ⟨0, Nat.zero_le _, rfl, HG5.out⟩
    case round =>
      obtain ⟨k, hk, rfl, hG⟩ := hrel
      have HG6 := Lib.hid hG
      clear hG hcb hfb hcx hfx
      obtain ⟨⟨_, _, hcb, hfb, _⟩, hcx, hfx, _, _⟩ := HG6.out
      by_cases hlt : k < N
      · have hdk : decide ((k : Int) < (N : Int)) = true := by rw [decide_eq_true_eq]; omega
        go_wp2_with fail
        go_loopw [9] (fun a wr => ∃ j : Nat, j ≤ k ∧ a = .int .i64 j ∧ Gst w wr h A m c (p + 4 + 9 * k + j) b (some ⟨r, 0, none⟩) N N) (fun a _ => (k - intOf a).toNat)
        case atStart => exact ⟨0, Nat.zero_le _, rfl, HG6.out⟩
        case round =>
          obtain ⟨j, hj, rfl, hG⟩ := hrel
          have HG7 := Lib.hid hG
          clear hG hcb hfb hcx hfx
          obtain ⟨⟨_, ⟨p0, hp0, hR0⟩, hcb, hfb, _⟩, hcx, hfx, _, _⟩ := HG7.out
          by_cases hjl : j < k
          · have hdj : decide ((j : Int) < (k : Int)) = true := by rw [decide_eq_true_eq]; omega
            go_wp2_with fail
            refine (pick h m c p0 A 5 (by omega) (by decide) _ hR0).mono ?_
            rintro e W8 ⟨v5, rfl, v5_0, v5_1, hR1, hg1⟩
            have v5_1 := v5_1 (by decide)
            have HG8 := Lib.hid (HG7.out.pick hR1 hg1 (by omega))
            clear hR0 hp0 p0 hR1 hg1 hcb hfb hcx hfx
            by_cases hoft : v5 < 1 + v4
            · obtain ⟨⟨_, _, hcb, hfb, _⟩, hcx, hfx, _, L, lo, hi2, hL, hO, hlo, hd⟩ := HG8.out
              obtain ⟨r', c', e, _, _, hcell⟩ := hO.form (by omega)
              injection e with e1 e2 e3
              injection e1 with e1
              injection e1 with e1 _ _
              subst e1
              clear e2 e3
              obtain ⟨hck, hfk⟩ := hcell k (by omega)
              have ck1 : (0 : Int) ≤ (k : Int) := by omega
              have ck2 : (k : Int) < (N : Int) := by omega
              have cj1 : (0 : Int) ≤ (j : Int) := by omega
              have cj2 : (j : Int) < (N : Int) := by omega
              clear hL hO hlo hd hcell
              have HP := Lib.hid (fun x => HG8.out.put (r := r) k x)
              go_wp2_with fail
              go_region
              refine then_any (fun w2 => Gst w w2 h A m c (p + 4 + 9 * k + j + 1) b (some ⟨r, 0, none⟩) N N) (HP.out _) ?_
              clear hck hfk hcb hfb hcx hfx HP HG8
              intro W9 hG9
              have HG9 := Lib.hid hG9
              clear hG9
              obtain ⟨⟨_, _, hcb, hfb, _⟩, hcx, hfx, _, L, lo, hi2, hL, hO, hlo, hd⟩ := HG9.out
              obtain ⟨r', c', e, _, _, hcell⟩ := hO.form (by omega)
              injection e with e1 e2 e3
              injection e1 with e1
              injection e1 with e1 _ _
              subst e1
              clear e2 e3
              obtain ⟨hck, hfk⟩ := hcell j (by omega)
              clear hL hO hlo hd hcell
              have HP := Lib.hid (fun x => HG9.out.put (r := r) j x)
              go_wp2_with fail
              go_region
              refine then_any (fun w2 => Gst w w2 h A m c (p + 4 + 9 * k + j + 1) b (some ⟨r, 0, none⟩) N N) (HP.out _) ?_
              clear hck hfk hcb hfb hcx hfx HP HG9
              intro W10 hG10
              have HG10 := Lib.hid hG10
              clear hG10
              go_wp2_with fail
              go_roundw
              case rel => exact ⟨j + 1, by omega, by go_num, HG10.out⟩
              case measure => simp [intOf]; omega
            · go_wp2_with fail
              go_roundw
              case rel => exact ⟨j + 1, by omega, by go_num, HG8.out⟩
              case measure => simp [intOf]; omega
          · have hdj : decide ((j : Int) < (k : Int)) = false := by rw [decide_eq_false_iff_not]; omega
            clear hR0 hp0 p0
            go_wp2_with fail
            go_roundw
            case rel => exact ⟨k + 1, by omega, by go_num, HG7.out.mono (by omega)⟩
            case measure => simp [intOf]; omega
      · have hdk : decide ((k : Int) < (N : Int)) = false := by rw [decide_eq_false_iff_not]; omega
        have HG6 := Lib.hid (HG6.out.mono (K' := p + 90) (by omega))
        clear hcb hfb hcx hfx
        obtain ⟨⟨_, ⟨p0, hp0, hR0⟩, hcb, hfb, _⟩, hcx, hfx, _, _⟩ := HG6.out
        go_wp2_with fail
        refine (pick h m c p0 A 5 (by omega) (by decide) _ hR0).mono ?_
        rintro e W7 ⟨v6, rfl, v6_0, v6_1, hR1, hg1⟩
        have v6_1 := v6_1 (by decide)
        have HG7 := Lib.hid (HG6.out.pick hR1 hg1 (by omega))
        clear hR0 hp0 p0 hR1 hg1 hcb hfb hcx hfx
        obtain ⟨⟨_, ⟨p0, hp0, hR0⟩, hcb, hfb, _⟩, hcx, hfx, _, _⟩ := HG7.out
        by_cases hs0 : v6 = 0
        · subst hs0
          go_wp2_with fail
          refine (pick h m c p0 A 3 (by omega) (by decide) _ hR0).mono ?_
          rintro e Wa ⟨x1, rfl, x1_0, x1_1, hR1, hg1⟩
          have x1_1 := x1_1 (by decide)
          have HGa := Lib.hid (HG7.out.pick hR1 hg1 (by omega))
          clear hR0 hp0 p0 hR1 hg1 hcb hfb hcx hfx
          obtain ⟨⟨_, ⟨p0, hp0, hR0⟩, hcb, hfb, _⟩, hcx, hfx, _, _⟩ := HGa.out
          go_wp2_with fail
          refine (pick h m c p0 A 3 (by omega) (by decide) _ hR0).mono ?_
          rintro e Wb ⟨x2, rfl, x2_0, x2_1, hR1, hg1⟩
          have x2_1 := x2_1 (by decide)
          have HGb := Lib.hid (HGa.out.pick hR1 hg1 (by omega))
          clear hR0 hp0 p0 hR1 hg1 hcb hfb hcx hfx
          have hlen := grid_len x1 x2 x1_0 x1_1 x2_0 x2_1
          go_wp2_with fail
          refine (specGridOf (1 + x1) (1 + x2) _).mono ?_
          rintro e Wc ⟨vg, rfl, hOg, hbg⟩
          obtain ⟨A2, c2, rfl, _⟩ := hOg.rd
          have HGc := Lib.hid (HGb.out.store hbg hOg rfl)
          obtain ⟨n2, hn2⟩ : ∃ n2, n2 = (Sw.vGrid (1 + x1) (1 + x2)).length := ⟨_, rfl⟩
          rw [← hn2] at HGc hlen
          simp only [← hn2]
          have hcx := (hbg.cell (p := ⟨b, 0, none⟩) (World.block_lt_of_cell? _ _ HGb.out.2.1)).trans HGb.out.2.1
          have hfx := (hbg.frozen (p := ⟨b, 0, none⟩) (World.block_lt_of_cell? _ _ HGb.out.2.1)).trans HGb.out.2.2.1
          clear hOg hbg hn2
          go_wp2_with fail
          obtain ⟨W8, hW8⟩ : ∃ W8, W8 = Wc.setCell ⟨b, 0, none⟩ (.slice A2 n2 c2) := ⟨_, rfl⟩
          rw [← hW8] at HGc ⊢
          have hG8 := HGc.out
          clear hcx hfx HGc hW8
          obtain ⟨A1, n1, c1, HG8, h1, h10⟩ : ∃ (A1 : Option Addr) (n1 c1 : Nat), Hid (Gst w W8 h A m c (p + 100) b A1 n1 c1) ∧ 1 ≤ n1 ∧ n1 ≤ 10 := ⟨_, _, _, Lib.hid (hG8.mono (by omega)), hlen.1, by omega⟩
          clear hG8 hlen
          obtain ⟨⟨_, ⟨p0, hp0, hR0⟩, hcb, hfb, _⟩, hcx, hfx, _, _⟩ := HG8.out
          refine (odd h m c p0 A n (by omega) (by omega) _ hR0).mono ?_
          rintro e W9 ⟨bo, p1, rfl, hp1, hR1, hg1⟩
          have HG9 := Lib.hid ((HG8.out.mono (K' := p + 101) (by omega)).pick hR1 hg1 (by omega))
          clear hR0 hp0 p0 hR1 hg1 hp1 p1 hcb hfb hcx hfx HG8
          cases bo
          · obtain ⟨⟨_, _, hcb, hfb, _⟩, hcx, hfx, _, _⟩ := HG9.out
            have HF := Lib.hid ((HG9.out.mono (K' := p + 200) (by omega)).fin h10)
            go_wp2_with fail
            exact bodyPost_ret (v := .agg #[.slice A1 n1 c1]) (by have q := HF.out.2; simp [results, Tryd.results14, go_sem, q]) rfl HF.out.1
          · obtain ⟨⟨_, ⟨p0, hp0, hR0⟩, hcb, hfb, _⟩, hcx, hfx, _, _⟩ := HG9.out
            go_wp2_with fail
            refine (pick h m c p0 A 4 (by omega) (by decide) _ hR0).mono ?_
            rintro e W10 ⟨v7, rfl, v7_0, v7_1, hR1, hg1⟩
            have v7_1 := v7_1 (by decide)
            have HG10 := Lib.hid (HG9.out.pick hR1 hg1 (by omega))
            clear hR0 hp0 p0 hR1 hg1 hcb hfb hcx hfx HG9
            obtain ⟨⟨hgA, hgB, hcb, hfb, hgC⟩, hcx, hfx, hgD, L, lo, hi2, hL, hO, hlo, hd⟩ := HG10.out
            have h0 : v7 = 0 ∨ v7 = 1 ∨ v7 = 2 ∨ v7 = 3 := by omega
            clear v7_0 v7_1
            rcases h0 with rfl | rfl | rfl | rfl
            · have HF := Lib.hid ((HG10.out.1.mono (K' := p + 200) (by omega)).fin (A1 := none) (n1 := 0) (c1 := 0) (l := []) rfl (by omega) (fun k hk => by simp at hk))
              clear hgA hgB hgC hgD hL hO hlo hd
              go_wp2_with fail
              exact bodyPost_ret (v := .agg #[.slice none 0 0]) (by have q := HF.out.2; simp [results, Tryd.results14, go_sem, q]) rfl HF.out.1
            · obtain ⟨r, c', e, _, _, hcell⟩ := hO.form (by omega)
              injection e with e1 e2 e3
              subst e1
              clear e2 e3
              obtain ⟨hck, hfk⟩ := hcell 0 (by omega)
              have hn1 : (0 : Int) < (n1 : Int) := by omega
              clear hgA hgB hgC hgD hL hO hlo hd hcell
              have HP := Lib.hid (fun x => HG10.out.put (r := r) 0 x)
              go_wp2_with fail
              go_region
              refine then_any (fun w2 => Gst w w2 h A m c (p + 101 + 1 + 1) b (some ⟨r, 0, none⟩) n1 c1) (HP.out _) ?_
              clear hck hfk hcb hfb hcx hfx HP HG10
              intro W11 hG11
              obtain ⟨⟨_, _, hcb, hfb, _⟩, hcx, hfx, _, _⟩ := id hG11
              have HF := Lib.hid ((hG11.mono (K' := p + 200) (by omega)).fin h10)
              clear hG11
              go_wp2_with fail
              exact bodyPost_ret (v := .agg #[.slice (some ⟨r, 0, none⟩) n1 c1]) (by have q := HF.out.2; simp [results, Tryd.results14, go_sem, q]) rfl HF.out.1
            · have HX := Lib.hid (lit_two HG10.out.1)
              have HF := Lib.hid ((HX.out.1.mono (K' := p + 200) (by omega)).fin (n1 := 2) (c1 := 2) (l := [2, 0]) rfl (by omega) HX.out.2)
              clear hgA hgB hgC hgD hL hO hlo hd
              obtain ⟨_, _, hcb2, hfb2, _⟩ := HX.out.1
              go_wp2_with fail
              exact bodyPost_ret (v := .agg #[.slice (some ⟨W10.heap.size, 0, none⟩) 2 2]) (by have q := HF.out.2; simp [results, Tryd.results14, go_sem, q]) rfl HF.out.1
            · clear hgA hgB hgC hgD hL hO hlo hd
              obtain ⟨i0, hi, hz0, hz1, hz2⟩ := info_parts info_int
              go_wp2_with (at_make; go_loud (refine wpList_make_full _ rfl _ _ 23 rfl W10.heap.size 3 i0 (.int .i64 0) 1 Tryd.underlying23 hi hz0 hz1 .i64 .i64 _ _ 10 rfl rfl rfl rfl (by rw [hz2]; omega) (by unfold maxLen; omega) (Nat.le_refl _) ?_); intro W12 hown hgrow; obtain ⟨_, _, hcb2, hfb2, _⟩ := HG10.out.1.grown hgrow (fun b e => by cases e))
              have HG12 := HG10.out.1.grown hgrow (fun b e => by cases e)
              have hO2 := made_ints hown
              have HF := Lib.hid ((HG12.mono (K' := p + 200) (by omega)).fin (n1 := 10) (c1 := 10) (l := List.replicate 10 0) rfl (by omega) (RdJ.of hO2 HG10.out.1.lt))
              exact bodyPost_ret (v := .agg #[.slice (some ⟨W10.heap.size, 0, none⟩) 10 10]) (by have q := HF.out.2; simp [results, Tryd.results14, go_sem, q]) rfl HF.out.1
        · have hsb : (v6 == 0) = false := by rw [beq_eq_false_iff_ne]; exact hs0
          by_cases hs1 : v6 = 1
          · subst hs1
            go_wp2_with fail
            refine (pick h m c p0 A 6 (by omega) (by decide) _ hR0).mono ?_
            rintro e Wa ⟨x1, rfl, x1_0, x1_1, hR1, hg1⟩
            have x1_1 := x1_1 (by decide)
            have HGb := Lib.hid (HG7.out.pick hR1 hg1 (by omega))
            clear hR0 hp0 p0 hR1 hg1 hcb hfb hcx hfx
            have hlen := ring_len x1 x1_0 x1_1
            go_wp2_with fail
            refine (specRingOf (3 + x1) _).mono ?_
            rintro e Wc ⟨vg, rfl, hOg, hbg⟩
            obtain ⟨A2, c2, rfl, _⟩ := hOg.rd
            have HGc := Lib.hid (HGb.out.store hbg hOg rfl)
            obtain ⟨n2, hn2⟩ : ∃ n2, n2 = (Sw.vRing (3 + x1)).length := ⟨_, rfl⟩
            rw [← hn2] at HGc hlen
            simp only [← hn2]
            have hcx := (hbg.cell (p := ⟨b, 0, none⟩) (World.block_lt_of_cell? _ _ HGb.out.2.1)).trans HGb.out.2.1
            have hfx := (hbg.frozen (p := ⟨b, 0, none⟩) (World.block_lt_of_cell? _ _ HGb.out.2.1)).trans HGb.out.2.2.1
            clear hOg hbg hn2
            go_wp2_with fail
            obtain ⟨W8, hW8⟩ : ∃ W8, W8 = Wc.setCell ⟨b, 0, none⟩ (.slice A2 n2 c2) := ⟨_, rfl⟩
            rw [← hW8] at HGc ⊢
            have hG8 := HGc.out
            clear hcx hfx HGc hW8
            obtain ⟨A1, n1, c1, HG8, h1, h10⟩ : ∃ (A1 : Option Addr) (n1 c1 : Nat), Hid (Gst w W8 h A m c (p + 100) b A1 n1 c1) ∧ 1 ≤ n1 ∧ n1 ≤ 10 := ⟨_, _, _, Lib.hid (hG8.mono (by omega)), hlen.1, by omega⟩
            clear hG8 hlen
            obtain ⟨⟨_, ⟨p0, hp0, hR0⟩, hcb, hfb, _⟩, hcx, hfx, _, _⟩ := HG8.out
            refine (odd h m c p0 A n (by omega) (by omega) _ hR0).mono ?_
            rintro e W9 ⟨bo, p1, rfl, hp1, hR1, hg1⟩
            have HG9 := Lib.hid ((HG8.out.mono (K' := p + 101) (by omega)).pick hR1 hg1 (by omega))
            clear hR0 hp0 p0 hR1 hg1 hp1 p1 hcb hfb hcx hfx HG8
            cases bo
            · obtain ⟨⟨_, _, hcb, hfb, _⟩, hcx, hfx, _, _⟩ := HG9.out
              have HF := Lib.hid ((HG9.out.mono (K' := p + 200) (by omega)).fin h10)
              go_wp2_with fail
              exact bodyPost_ret (v := .agg #[.slice A1 n1 c1]) (by have q := HF.out.2; simp [results, Tryd.results14, go_sem, q]) rfl HF.out.1
            · obtain ⟨⟨_, ⟨p0, hp0, hR0⟩, hcb, hfb, _⟩, hcx, hfx, _, _⟩ := HG9.out
              go_wp2_with fail
              refine (pick h m c p0 A 4 (by omega) (by decide) _ hR0).mono ?_
              rintro e W10 ⟨v7, rfl, v7_0, v7_1, hR1, hg1⟩
              have v7_1 := v7_1 (by decide)
              have HG10 := Lib.hid (HG9.out.pick hR1 hg1 (by omega))
              clear hR0 hp0 p0 hR1 hg1 hcb hfb hcx hfx HG9
              obtain ⟨⟨hgA, hgB, hcb, hfb, hgC⟩, hcx, hfx, hgD, L, lo, hi2, hL, hO, hlo, hd⟩ := HG10.out
              have h0 : v7 = 0 ∨ v7 = 1 ∨ v7 = 2 ∨ v7 = 3 := by omega
              clear v7_0 v7_1
              rcases h0 with rfl | rfl | rfl | rfl
              · have HF := Lib.hid ((HG10.out.1.mono (K' := p + 200) (by omega)).fin (A1 := none) (n1 := 0) (c1 := 0) (l := []) rfl (by omega) (fun k hk => by simp at hk))
                clear hgA hgB hgC hgD hL hO hlo hd
                go_wp2_with fail
                exact bodyPost_ret (v := .agg #[.slice none 0 0]) (by have q := HF.out.2; simp [results, Tryd.results14, go_sem, q]) rfl HF.out.1
              · obtain ⟨r, c', e, _, _, hcell⟩ := hO.form (by omega)
                injection e with e1 e2 e3
                subst e1
                clear e2 e3
                obtain ⟨hck, hfk⟩ := hcell 0 (by omega)
                have hn1 : (0 : Int) < (n1 : Int) := by omega
                clear hgA hgB hgC hgD hL hO hlo hd hcell
                have HP := Lib.hid (fun x => HG10.out.put (r := r) 0 x)
                go_wp2_with fail
                go_region
                refine then_any (fun w2 => Gst w w2 h A m c (p + 101 + 1 + 1) b (some ⟨r, 0, none⟩) n1 c1) (HP.out _) ?_
                clear hck hfk hcb hfb hcx hfx HP HG10
                intro W11 hG11
                obtain ⟨⟨_, _, hcb, hfb, _⟩, hcx, hfx, _, _⟩ := id hG11
                have HF := Lib.hid ((hG11.mono (K' := p + 200) (by omega)).fin h10)
                clear hG11
                go_wp2_with fail
                exact bodyPost_ret (v := .agg #[.slice (some ⟨r, 0, none⟩) n1 c1]) (by have q := HF.out.2; simp [results, Tryd.results14, go_sem, q]) rfl HF.out.1
              · have HX := Lib.hid (lit_two HG10.out.1)
                have HF := Lib.hid ((HX.out.1.mono (K' := p + 200) (by omega)).fin (n1 := 2) (c1 := 2) (l := [2, 0]) rfl (by omega) HX.out.2)
                clear hgA hgB hgC hgD hL hO hlo hd
                obtain ⟨_, _, hcb2, hfb2, _⟩ := HX.out.1
                go_wp2_with fail
                exact bodyPost_ret (v := .agg #[.slice (some ⟨W10.heap.size, 0, none⟩) 2 2]) (by have q := HF.out.2; simp [results, Tryd.results14, go_sem, q]) rfl HF.out.1
              · clear hgA hgB hgC hgD hL hO hlo hd
                obtain ⟨i0, hi, hz0, hz1, hz2⟩ := info_parts info_int
                go_wp2_with (at_make; go_loud (refine wpList_make_full _ rfl _ _ 23 rfl W10.heap.size 3 i0 (.int .i64 0) 1 Tryd.underlying23 hi hz0 hz1 .i64 .i64 _ _ 10 rfl rfl rfl rfl (by rw [hz2]; omega) (by unfold maxLen; omega) (Nat.le_refl _) ?_); intro W12 hown hgrow; obtain ⟨_, _, hcb2, hfb2, _⟩ := HG10.out.1.grown hgrow (fun b e => by cases e))
                have HG12 := HG10.out.1.grown hgrow (fun b e => by cases e)
                have hO2 := made_ints hown
                have HF := Lib.hid ((HG12.mono (K' := p + 200) (by omega)).fin (n1 := 10) (c1 := 10) (l := List.replicate 10 0) rfl (by omega) (RdJ.of hO2 HG10.out.1.lt))
                exact bodyPost_ret (v := .agg #[.slice (some ⟨W10.heap.size, 0, none⟩) 10 10]) (by have q := HF.out.2; simp [results, Tryd.results14, go_sem, q]) rfl HF.out.1
          · have hsb1 : (v6 == 1) = false := by rw [beq_eq_false_iff_ne]; exact hs1
            clear hR0 hp0 p0 hcb hfb hcx hfx
            obtain ⟨W8, hW8⟩ : ∃ W8, W8 = W7 := ⟨_, rfl⟩
            rw [← hW8] at HG7 ⊢
            clear hW8
            obtain ⟨A1, n1, c1, HG8, h1, h10⟩ : ∃ (A1 : Option Addr) (n1 c1 : Nat), Hid (Gst w W8 h A m c (p + 100) b A1 n1 c1) ∧ 1 ≤ n1 ∧ n1 ≤ 10 := ⟨_, _, _, Lib.hid (HG7.out.mono (by omega)), hN1, by omega⟩
            obtain ⟨⟨_, ⟨p0, hp0, hR0⟩, hcb, hfb, _⟩, hcx, hfx, _, _⟩ := HG8.out
            go_wp2_with fail
            refine (odd h m c p0 A n (by omega) (by omega) _ hR0).mono ?_
            rintro e W9 ⟨bo, p1, rfl, hp1, hR1, hg1⟩
            have HG9 := Lib.hid ((HG8.out.mono (K' := p + 101) (by omega)).pick hR1 hg1 (by omega))
            clear hR0 hp0 p0 hR1 hg1 hp1 p1 hcb hfb hcx hfx HG8
            cases bo
            · obtain ⟨⟨_, _, hcb, hfb, _⟩, hcx, hfx, _, _⟩ := HG9.out
              have HF := Lib.hid ((HG9.out.mono (K' := p + 200) (by omega)).fin h10)
              go_wp2_with fail
              exact bodyPost_ret (v := .agg #[.slice A1 n1 c1]) (by have q := HF.out.2; simp [results, Tryd.results14, go_sem, q]) rfl HF.out.1
            · obtain ⟨⟨_, ⟨p0, hp0, hR0⟩, hcb, hfb, _⟩, hcx, hfx, _, _⟩ := HG9.out
              go_wp2_with fail
              refine (pick h m c p0 A 4 (by omega) (by decide) _ hR0).mono ?_
              rintro e W10 ⟨v7, rfl, v7_0, v7_1, hR1, hg1⟩
              have v7_1 := v7_1 (by decide)
              have HG10 := Lib.hid (HG9.out.pick hR1 hg1 (by omega))
              clear hR0 hp0 p0 hR1 hg1 hcb hfb hcx hfx HG9
              obtain ⟨⟨hgA, hgB, hcb, hfb, hgC⟩, hcx, hfx, hgD, L, lo, hi2, hL, hO, hlo, hd⟩ := HG10.out
              have h0 : v7 = 0 ∨ v7 = 1 ∨ v7 = 2 ∨ v7 = 3 := by omega
              clear v7_0 v7_1
              rcases h0 with rfl | rfl | rfl | rfl
              · have HF := Lib.hid ((HG10.out.1.mono (K' := p + 200) (by omega)).fin (A1 := none) (n1 := 0) (c1 := 0) (l := []) rfl (by omega) (fun k hk => by simp at hk))
                clear hgA hgB hgC hgD hL hO hlo hd
                go_wp2_with fail
                exact bodyPost_ret (v := .agg #[.slice none 0 0]) (by have q := HF.out.2; simp [results, Tryd.results14, go_sem, q]) rfl HF.out.1
              · obtain ⟨r, c', e, _, _, hcell⟩ := hO.form (by omega)
                injection e with e1 e2 e3
                subst e1
                clear e2 e3
                obtain ⟨hck, hfk⟩ := hcell 0 (by omega)
                have hn1 : (0 : Int) < (n1 : Int) := by omega
                clear hgA hgB hgC hgD hL hO hlo hd hcell
                have HP := Lib.hid (fun x => HG10.out.put (r := r) 0 x)
                go_wp2_with fail
                go_region
                refine then_any (fun w2 => Gst w w2 h A m c (p + 101 + 1 + 1) b (some ⟨r, 0, none⟩) n1 c1) (HP.out _) ?_
                clear hck hfk hcb hfb hcx hfx HP HG10
                intro W11 hG11
                obtain ⟨⟨_, _, hcb, hfb, _⟩, hcx, hfx, _, _⟩ := id hG11
                have HF := Lib.hid ((hG11.mono (K' := p + 200) (by omega)).fin h10)
                clear hG11
                go_wp2_with fail
                exact bodyPost_ret (v := .agg #[.slice (some ⟨r, 0, none⟩) n1 c1]) (by have q := HF.out.2; simp [results, Tryd.results14, go_sem, q]) rfl HF.out.1
              · have HX := Lib.hid (lit_two HG10.out.1)
                have HF := Lib.hid ((HX.out.1.mono (K' := p + 200) (by omega)).fin (n1 := 2) (c1 := 2) (l := [2, 0]) rfl (by omega) HX.out.2)
                clear hgA hgB hgC hgD hL hO hlo hd
                obtain ⟨_, _, hcb2, hfb2, _⟩ := HX.out.1
                go_wp2_with fail
                exact bodyPost_ret (v := .agg #[.slice (some ⟨W10.heap.size, 0, none⟩) 2 2]) (by have q := HF.out.2; simp [results, Tryd.results14, go_sem, q]) rfl HF.out.1
              · clear hgA hgB hgC hgD hL hO hlo hd
                obtain ⟨i0, hi, hz0, hz1, hz2⟩ := info_parts info_int
                go_wp2_with (at_make; go_loud (refine wpList_make_full _ rfl _ _ 23 rfl W10.heap.size 3 i0 (.int .i64 0) 1 Tryd.underlying23 hi hz0 hz1 .i64 .i64 _ _ 10 rfl rfl rfl rfl (by rw [hz2]; omega) (by unfold maxLen; omega) (Nat.le_refl _) ?_); intro W12 hown hgrow; obtain ⟨_, _, hcb2, hfb2, _⟩ := HG10.out.1.grown hgrow (fun b e => by cases e))
                have HG12 := HG10.out.1.grown hgrow (fun b e => by cases e)
                have hO2 := made_ints hown
                have HF := Lib.hid ((HG12.mono (K' := p + 200) (by omega)).fin (n1 := 10) (c1 := 10) (l := List.replicate 10 0) rfl (by omega) (RdJ.of hO2 HG10.out.1.lt))
                exact bodyPost_ret (v := .agg #[.slice (some ⟨W10.heap.size, 0, none⟩) 10 10]) (by have q := HF.out.2; simp [results, Tryd.results14, go_sem, q]) rfl HF.out.1
  · have H3 := Lib.hid (H2.out.mono (K' := p + 1 + 1 + 1) (by omega))
    obtain ⟨W3, hW3⟩ : ∃ W3, W3 = W2 := ⟨_, rfl⟩
    rw [← hW3] at H3 ⊢
    clear hW3 H0 H1 H2
    obtain ⟨N, hN⟩ : ∃ N : Nat, 1 + v1 = (N : Int) := ⟨1 + v1.toNat, by omega⟩
    have hN1 : 1 ≤ N := by omega
    have hN9 : N ≤ 9 := by omega
    go_wp2_with (at_make; go_loud (refine wpList_make_full _ rfl _ _ 23 rfl W3.heap.size 3 i0 (.int .i64 0) 1 Tryd.underlying23 hi hz0 hz1 .i64 .i64 _ _ N rfl rfl rfl rfl (by rw [hz2]; omega) (by unfold maxLen; omega) (Nat.le_refl _) ?_); intro W4 hown hgrow)
    have HG4 := Lib.hid (Gst.start H3.out (made_ints hown) (by rw [List.length_replicate]) hgrow 25)
    obtain ⟨r, hr⟩ : ∃ r, r = W3.heap.size := ⟨_, rfl⟩
    obtain ⟨b, hb⟩ : ∃ b, b = W4.heap.size := ⟨_, rfl⟩
    rw [← hr, ← hb] at HG4
    clear hown hgrow hi hz0 hz1 hz2
    simp only [← hr, ← hb]
    clear hr hb
    obtain ⟨p0, hp0, hR0⟩ := HG4.out.1.2.1
    refine (pick h m c p0 A 4 (by omega) (by decide) _ hR0).mono ?_
    rintro e W5 ⟨v4, rfl, v4_0, v4_1, hR1, hg1⟩
    have v4_1 := v4_1 (by decide)
    have HG5 := Lib.hid (HG4.out.pick hR1 hg1 (by omega))
    clear hR0 hp0 p0 hR1 hg1
    obtain ⟨⟨_, _, hcb, hfb, _⟩, hcx, hfx, _, _⟩ := HG5.out
    go_wp2_with fail
    go_loopw [8] (fun a wr => ∃ k : Nat, k ≤ N ∧ a = .int .i64 k ∧ Gst w wr h A m c (p + 4 + 9 * k) b (some ⟨r, 0, none⟩) N N) (fun a _ => (N - intOf a).toNat)
    case atStart => exact ⟨0, Nat.zero_le _, rfl, HG5.out⟩
    case round =>
      obtain ⟨k, hk, rfl, hG⟩ := hrel
      have HG6 := Lib.hid hG
      clear hG hcb hfb hcx hfx
      obtain ⟨⟨_, _, hcb, hfb, _⟩, hcx, hfx, _, _⟩ := HG6.out
      by_cases hlt : k < N
      · have hdk : decide ((k : Int) < (N : Int)) = true := by rw [decide_eq_true_eq]; omega
        go_wp2_with fail
        go_loopw [9] (fun a wr => ∃ j : Nat, j ≤ k ∧ a = .int .i64 j ∧ Gst w wr h A m c (p + 4 + 9 * k + j) b (some ⟨r, 0, none⟩) N N) (fun a _ => (k - intOf a).toNat)
        case atStart => exact ⟨0, Nat.zero_le _, rfl, HG6.out⟩
        case round =>
          obtain ⟨j, hj, rfl, hG⟩ := hrel
          have HG7 := Lib.hid hG
          clear hG hcb hfb hcx hfx
          obtain ⟨⟨_, ⟨p0, hp0, hR0⟩, hcb, hfb, _⟩, hcx, hfx, _, _⟩ := HG7.out
          by_cases hjl : j < k
          · have hdj : decide ((j : Int) < (k : Int)) = true := by rw [decide_eq_true_eq]; omega
            go_wp2_with fail
            refine (pick h m c p0 A 5 (by omega) (by decide) _ hR0).mono ?_
            rintro e W8 ⟨v5, rfl, v5_0, v5_1, hR1, hg1⟩
            have v5_1 := v5_1 (by decide)
            have HG8 := Lib.hid (HG7.out.pick hR1 hg1 (by omega))
            clear hR0 hp0 p0 hR1 hg1 hcb hfb hcx hfx
            by_cases hoft : v5 < 1 + v4
            · obtain ⟨⟨_, _, hcb, hfb, _⟩, hcx, hfx, _, L, lo, hi2, hL, hO, hlo, hd⟩ := HG8.out
              obtain ⟨r', c', e, _, _, hcell⟩ := hO.form (by omega)
              injection e with e1 e2 e3
              injection e1 with e1
              injection e1 with e1 _ _
              subst e1
              clear e2 e3
              obtain ⟨hck, hfk⟩ := hcell k (by omega)
              have ck1 : (0 : Int) ≤ (k : Int) := by omega
              have ck2 : (k : Int) < (N : Int) := by omega
              have cj1 : (0 : Int) ≤ (j : Int) := by omega
              have cj2 : (j : Int) < (N : Int) := by omega
              clear hL hO hlo hd hcell
              have HP := Lib.hid (fun x => HG8.out.put (r := r) k x)
              go_wp2_with fail
              go_region
              refine then_any (fun w2 => Gst w w2 h A m c (p + 4 + 9 * k + j + 1) b (some ⟨r, 0, none⟩) N N) (HP.out _) ?_
              clear hck hfk hcb hfb hcx hfx HP HG8
              intro W9 hG9
              have HG9 := Lib.hid hG9
              clear hG9
              obtain ⟨⟨_, _, hcb, hfb, _⟩, hcx, hfx, _, L, lo, hi2, hL, hO, hlo, hd⟩ := HG9.out
              obtain ⟨r', c', e, _, _, hcell⟩ := hO.form (by omega)
              injection e with e1 e2 e3
              injection e1 with e1
              injection e1 with e1 _ _
              subst e1
              clear e2 e3
              obtain ⟨hck, hfk⟩ := hcell j (by omega)
              clear hL hO hlo hd hcell
              have HP := Lib.hid (fun x => HG9.out.put (r := r) j x)
              go_wp2_with fail
              go_region
              refine then_any (fun w2 => Gst w w2 h A m c (p + 4 + 9 * k + j + 1) b (some ⟨r, 0, none⟩) N N) (HP.out _) ?_
              clear hck hfk hcb hfb hcx hfx HP HG9
              intro W10 hG10
              have HG10 := Lib.hid hG10
              clear hG10
              go_wp2_with fail
              go_roundw
              case rel => exact ⟨j + 1, by omega, by go_num, HG10.out⟩
              case measure => simp [intOf]; omega
            · go_wp2_with fail
              go_roundw
              case rel => exact ⟨j + 1, by omega, by go_num, HG8.out⟩
              case measure => simp [intOf]; omega
          · have hdj : decide ((j : Int) < (k : Int)) = false := by rw [decide_eq_false_iff_not]; omega
            clear hR0 hp0 p0
            go_wp2_with fail
            go_roundw
            case rel => exact ⟨k + 1, by omega, by go_num, HG7.out.mono (by omega)⟩
            case measure => simp [intOf]; omega
      · have hdk : decide ((k : Int) < (N : Int)) = false := by rw [decide_eq_false_iff_not]; omega
        have HG6 := Lib.hid (HG6.out.mono (K' := p + 90) (by omega))
        clear hcb hfb hcx hfx
        obtain ⟨⟨_, ⟨p0, hp0, hR0⟩, hcb, hfb, _⟩, hcx, hfx, _, _⟩ := HG6.out
        go_wp2_with fail
        refine (pick h m c p0 A 5 (by omega) (by decide) _ hR0).mono ?_
        rintro e W7 ⟨v6, rfl, v6_0, v6_1, hR1, hg1⟩
        have v6_1 := v6_1 (by decide)
        have HG7 := Lib.hid (HG6.out.pick hR1 hg1 (by omega))
        clear hR0 hp0 p0 hR1 hg1 hcb hfb hcx hfx
        obtain ⟨⟨_, ⟨p0, hp0, hR0⟩, hcb, hfb, _⟩, hcx, hfx, _, _⟩ := HG7.out
        by_cases hs0 : v6 = 0
        · subst hs0
          go_wp2_with fail
          refine (pick h m c p0 A 3 (by omega) (by decide) _ hR0).mono ?_
          rintro e Wa ⟨x1, rfl, x1_0, x1_1, hR1, hg1⟩
          have x1_1 := x1_1 (by decide)
          have HGa := Lib.hid (HG7.out.pick hR1 hg1 (by omega))
          clear hR0 hp0 p0 hR1 hg1 hcb hfb hcx hfx
          obtain ⟨⟨_, ⟨p0, hp0, hR0⟩, hcb, hfb, _⟩, hcx, hfx, _, _⟩ := HGa.out
          go_wp2_with fail
          refine (pick h m c p0 A 3 (by omega) (by decide) _ hR0).mono ?_
          rintro e Wb ⟨x2, rfl, x2_0, x2_1, hR1, hg1⟩
          have x2_1 := x2_1 (by decide)
          have HGb := Lib.hid (HGa.out.pick hR1 hg1 (by omega))
          clear hR0 hp0 p0 hR1 hg1 hcb hfb hcx hfx
          have hlen := grid_len x1 x2 x1_0 x1_1 x2_0 x2_1
          go_wp2_with fail
          refine (specGridOf (1 + x1) (1 + x2) _).mono ?_
          rintro e Wc ⟨vg, rfl, hOg, hbg⟩
          obtain ⟨A2, c2, rfl, _⟩ := hOg.rd
          have HGc := Lib.hid (HGb.out.store hbg hOg rfl)
          obtain ⟨n2, hn2⟩ : ∃ n2, n2 = (Sw.vGrid (1 + x1) (1 + x2)).length := ⟨_, rfl⟩
          rw [← hn2] at HGc hlen
          simp only [← hn2]
          have hcx := (hbg.cell (p := ⟨b, 0, none⟩) (World.block_lt_of_cell? _ _ HGb.out.2.1)).trans HGb.out.2.1
          have hfx := (hbg.frozen (p := ⟨b, 0, none⟩) (World.block_lt_of_cell? _ _ HGb.out.2.1)).trans HGb.out.2.2.1
          clear hOg hbg hn2
          go_wp2_with fail
          obtain ⟨W8, hW8⟩ : ∃ W8, W8 = Wc.setCell ⟨b, 0, none⟩ (.slice A2 n2 c2) := ⟨_, rfl⟩
          rw [← hW8] at HGc ⊢
          have hG8 := HGc.out
          clear hcx hfx HGc hW8
          obtain ⟨A1, n1, c1, HG8, h1, h10⟩ : ∃ (A1 : Option Addr) (n1 c1 : Nat), Hid (Gst w W8 h A m c (p + 100) b A1 n1 c1) ∧ 1 ≤ n1 ∧ n1 ≤ 10 := ⟨_, _, _, Lib.hid (hG8.mono (by omega)), hlen.1, by omega⟩
          clear hG8 hlen
          obtain ⟨⟨_, ⟨p0, hp0, hR0⟩, hcb, hfb, _⟩, hcx, hfx, _, _⟩ := HG8.out
          refine (odd h m c p0 A n (by omega) (by omega) _ hR0).mono ?_
          rintro e W9 ⟨bo, p1, rfl, hp1, hR1, hg1⟩
          have HG9 := Lib.hid ((HG8.out.mono (K' := p + 101) (by omega)).pick hR1 hg1 (by omega))
          clear hR0 hp0 p0 hR1 hg1 hp1 p1 hcb hfb hcx hfx HG8
          cases bo
          · obtain ⟨⟨_, _, hcb, hfb, _⟩, hcx, hfx, _, _⟩ := HG9.out
            have HF := Lib.hid ((HG9.out.mono (K' := p + 200) (by omega)).fin h10)
            go_wp2_with fail
            exact bodyPost_ret (v := .agg #[.slice A1 n1 c1]) (by have q := HF.out.2; simp [results, Tryd.results14, go_sem, q]) rfl HF.out.1
          · obtain ⟨⟨_, ⟨p0, hp0, hR0⟩, hcb, hfb, _⟩, hcx, hfx, _, _⟩ := HG9.out
            go_wp2_with fail
            refine (pick h m c p0 A 4 (by omega) (by decide) _ hR0).mono ?_
            rintro e W10 ⟨v7, rfl, v7_0, v7_1, hR1, hg1⟩
            have v7_1 := v7_1 (by decide)
            have HG10 := Lib.hid (HG9.out.pick hR1 hg1 (by omega))
            clear hR0 hp0 p0 hR1 hg1 hcb hfb hcx hfx HG9
            obtain ⟨⟨hgA, hgB, hcb, hfb, hgC⟩, hcx, hfx, hgD, L, lo, hi2, hL, hO, hlo, hd⟩ := HG10.out
            have h0 : v7 = 0 ∨ v7 = 1 ∨ v7 = 2 ∨ v7 = 3 := by omega
            clear v7_0 v7_1
            rcases h0 with rfl | rfl | rfl | rfl
            · have HF := Lib.hid ((HG10.out.1.mono (K' := p + 200) (by omega)).fin (A1 := none) (n1 := 0) (c1 := 0) (l := []) rfl (by omega) (fun k hk => by simp at hk))
              clear hgA hgB hgC hgD hL hO hlo hd
              go_wp2_with fail
              exact bodyPost_ret (v := .agg #[.slice none 0 0]) (by have q := HF.out.2; simp [results, Tryd.results14, go_sem, q]) rfl HF.out.1
            · obtain ⟨r, c', e, _, _, hcell⟩ := hO.form (by omega)
              injection e with e1 e2 e3
              subst e1
              clear e2 e3
              obtain ⟨hck, hfk⟩ := hcell 0 (by omega)
              have hn1 : (0 : Int) < (n1 : Int) := by omega
              clear hgA hgB hgC hgD hL hO hlo hd hcell
              have HP := Lib.hid (fun x => HG10.out.put (r := r) 0 x)
              go_wp2_with fail
              go_region
              refine then_any (fun w2 => Gst w w2 h A m c (p + 101 + 1 + 1) b (some ⟨r, 0, none⟩) n1 c1) (HP.out _) ?_
              clear hck hfk hcb hfb hcx hfx HP HG10
              intro W11 hG11
              obtain ⟨⟨_, _, hcb, hfb, _⟩, hcx, hfx, _, _⟩ := id hG11
              have HF := Lib.hid ((hG11.mono (K' := p + 200) (by omega)).fin h10)
              clear hG11
              go_wp2_with fail
              exact bodyPost_ret (v := .agg #[.slice (some ⟨r, 0, none⟩) n1 c1]) (by have q := HF.out.2; simp [results, Tryd.results14, go_sem, q]) rfl HF.out.1
            · have HX := Lib.hid (lit_two HG10.out.1)
              have HF := Lib.hid ((HX.out.1.mono (K' := p + 200) (by omega)).fin (n1 := 2) (c1 := 2) (l := [2, 0]) rfl (by omega) HX.out.2)
              clear hgA hgB hgC hgD hL hO hlo hd
              obtain ⟨_, _, hcb2, hfb2, _⟩ := HX.out.1
              go_wp2_with fail
              exact bodyPost_ret (v := .agg #[.slice (some ⟨W10.heap.size, 0, none⟩) 2 2]) (by have q := HF.out.2; simp [results, Tryd.results14, go_sem, q]) rfl HF.out.1
            · clear hgA hgB hgC hgD hL hO hlo hd
              obtain ⟨i0, hi, hz0, hz1, hz2⟩ := info_parts info_int
              go_wp2_with (at_make; go_loud (refine wpList_make_full _ rfl _ _ 23 rfl W10.heap.size 3 i0 (.int .i64 0) 1 Tryd.underlying23 hi hz0 hz1 .i64 .i64 _ _ 10 rfl rfl rfl rfl (by rw [hz2]; omega) (by unfold maxLen; omega) (Nat.le_refl _) ?_); intro W12 hown hgrow; obtain ⟨_, _, hcb2, hfb2, _⟩ := HG10.out.1.grown hgrow (fun b e => by cases e))
              have HG12 := HG10.out.1.grown hgrow (fun b e => by cases e)
              have hO2 := made_ints hown
              have HF := Lib.hid ((HG12.mono (K' := p + 200) (by omega)).fin (n1 := 10) (c1 := 10) (l := List.replicate 10 0) rfl (by omega) (RdJ.of hO2 HG10.out.1.lt))
              exact bodyPost_ret (v := .agg #[.slice (some ⟨W10.heap.size, 0, none⟩) 10 10]) (by have q := HF.out.2; simp [results, Tryd.results14, go_sem, q]) rfl HF.out.1
        · have hsb : (v6 == 0) = false := by rw [beq_eq_false_iff_ne]; exact hs0
          by_cases hs1 : v6 = 1
          · subst hs1
            go_wp2_with fail
            refine (pick h m c p0 A 6 (by omega) (by decide) _ hR0).mono ?_
            rintro e Wa ⟨x1, rfl, x1_0, x1_1, hR1, hg1⟩
            have x1_1 := x1_1 (by decide)
            have HGb := Lib.hid (HG7.out.pick hR1 hg1 (by omega))
            clear hR0 hp0 p0 hR1 hg1 hcb hfb hcx hfx
            have hlen := ring_len x1 x1_0 x1_1
            go_wp2_with fail
            refine (specRingOf (3 + x1) _).mono ?_
            rintro e Wc ⟨vg, rfl, hOg, hbg⟩
            obtain ⟨A2, c2, rfl, _⟩ := hOg.rd
            have HGc := Lib.hid (HGb.out.store hbg hOg rfl)
            obtain ⟨n2, hn2⟩ : ∃ n2, n2 = (Sw.vRing (3 + x1)).length := ⟨_, rfl⟩
            rw [← hn2] at HGc hlen
            simp only [← hn2]
            have hcx := (hbg.cell (p := ⟨b, 0, none⟩) (World.block_lt_of_cell? _ _ HGb.out.2.1)).trans HGb.out.2.1
            have hfx := (hbg.frozen (p := ⟨b, 0, none⟩) (World.block_lt_of_cell? _ _ HGb.out.2.1)).trans HGb.out.2.2.1
            clear hOg hbg hn2
            go_wp2_with fail
            obtain ⟨W8, hW8⟩ : ∃ W8, W8 = Wc.setCell ⟨b, 0, none⟩ (.slice A2 n2 c2) := ⟨_, rfl⟩
            rw [← hW8] at HGc ⊢
            have hG8 := HGc.out
            clear hcx hfx HGc hW8
            obtain ⟨A1, n1, c1, HG8, h1, h10⟩ : ∃ (A1 : Option Addr) (n1 c1 : Nat), Hid (Gst w W8 h A m c (p + 100) b A1 n1 c1) ∧ 1 ≤ n1 ∧ n1 ≤ 10 := ⟨_, _, _, Lib.hid (hG8.mono (by omega)), hlen.1, by omega⟩
            clear hG8 hlen
            obtain ⟨⟨_, ⟨p0, hp0, hR0⟩, hcb, hfb, _⟩, hcx, hfx, _, _⟩ := HG8.out
            refine (odd h m c p0 A n (by omega) (by omega) _ hR0).mono ?_
            rintro e W9 ⟨bo, p1, rfl, hp1, hR1, hg1⟩
            have HG9 := Lib.hid ((HG8.out.mono (K' := p + 101) (by omega)).pick hR1 hg1 (by omega))
            clear hR0 hp0 p0 hR1 hg1 hp1 p1 hcb hfb hcx hfx HG8
            cases bo
            · obtain ⟨⟨_, _, hcb, hfb, _⟩, hcx, hfx, _, _⟩ := HG9.out
              have HF := Lib.hid ((HG9.out.mono (K' := p + 200) (by omega)).fin h10)
              go_wp2_with fail
              exact bodyPost_ret (v := .agg #[.slice A1 n1 c1]) (by have q := HF.out.2; simp [results, Tryd.results14, go_sem, q]) rfl HF.out.1
            · obtain ⟨⟨_, ⟨p0, hp0, hR0⟩, hcb, hfb, _⟩, hcx, hfx, _, _⟩ := HG9.out
              go_wp2_with fail
              refine (pick h m c p0 A 4 (by omega) (by decide) _ hR0).mono ?_
              rintro e W10 ⟨v7, rfl, v7_0, v7_1, hR1, hg1⟩
              have v7_1 := v7_1 (by decide)
              have HG10 := Lib.hid (HG9.out.pick hR1 hg1 (by omega))
              clear hR0 hp0 p0 hR1 hg1 hcb hfb hcx hfx HG9
              obtain ⟨⟨hgA, hgB, hcb, hfb, hgC⟩, hcx, hfx, hgD, L, lo, hi2, hL, hO, hlo, hd⟩ := HG10.out
              have h0 : v7 = 0 ∨ v7 = 1 ∨ v7 = 2 ∨ v7 = 3 := by omega
              clear v7_0 v7_1
              rcases h0 with rfl | rfl | rfl | rfl
              · have HF := Lib.hid ((HG10.out.1.mono (K' := p + 200) (by omega)).fin (A1 := none) (n1 := 0) (c1 := 0) (l := []) rfl (by omega) (fun k hk => by simp at hk))
                clear hgA hgB hgC hgD hL hO hlo hd
                go_wp2_with fail
                exact bodyPost_ret (v := .agg #[.slice none 0 0]) (by have q := HF.out.2; simp [results, Tryd.results14, go_sem, q]) rfl HF.out.1
              · obtain ⟨r, c', e, _, _, hcell⟩ := hO.form (by omega)
                injection e with e1 e2 e3
                subst e1
                clear e2 e3
                obtain ⟨hck, hfk⟩ := hcell 0 (by omega)
                have hn1 : (0 : Int) < (n1 : Int) := by omega
                clear hgA hgB hgC hgD hL hO hlo hd hcell
                have HP := Lib.hid (fun x => HG10.out.put (r := r) 0 x)
                go_wp2_with fail
                go_region
                refine then_any (fun w2 => Gst w w2 h A m c (p + 101 + 1 + 1) b (some ⟨r, 0, none⟩) n1 c1) (HP.out _) ?_
                clear hck hfk hcb hfb hcx hfx HP HG10
                intro W11 hG11
                obtain ⟨⟨_, _, hcb, hfb, _⟩, hcx, hfx, _, _⟩ := id hG11
                have HF := Lib.hid ((hG11.mono (K' := p + 200) (by omega)).fin h10)
                clear hG11
                go_wp2_with fail
                exact bodyPost_ret (v := .agg #[.slice (some ⟨r, 0, none⟩) n1 c1]) (by have q := HF.out.2; simp [results, Tryd.results14, go_sem, q]) rfl HF.out.1
              · have HX := Lib.hid (lit_two HG10.out.1)
                have HF := Lib.hid ((HX.out.1.mono (K' := p + 200) (by omega)).fin (n1 := 2) (c1 := 2) (l := [2, 0]) rfl (by omega) HX.out.2)
                clear hgA hgB hgC hgD hL hO hlo hd
                obtain ⟨_, _, hcb2, hfb2, _⟩ := HX.out.1
                go_wp2_with fail
                exact bodyPost_ret (v := .agg #[.slice (some ⟨W10.heap.size, 0, none⟩) 2 2]) (by have q := HF.out.2; simp [results, Tryd.results14, go_sem, q]) rfl HF.out.1
              · clear hgA hgB hgC hgD hL hO hlo hd
                obtain ⟨i0, hi, hz0, hz1, hz2⟩ := info_parts info_int
                go_wp2_with (at_make; go_loud (refine wpList_make_full _ rfl _ _ 23 rfl W10.heap.size 3 i0 (.int .i64 0) 1 Tryd.underlying23 hi hz0 hz1 .i64 .i64 _ _ 10 rfl rfl rfl rfl (by rw [hz2]; omega) (by unfold maxLen; omega) (Nat.le_refl _) ?_); intro W12 hown hgrow; obtain ⟨_, _, hcb2, hfb2, _⟩ := HG10.out.1.grown hgrow (fun b e => by cases e))
                have HG12 := HG10.out.1.grown hgrow (fun b e => by cases e)
                have hO2 := made_ints hown
                have HF := Lib.hid ((HG12.mono (K' := p + 200) (by omega)).fin (n1 := 10) (c1 := 10) (l := List.replicate 10 0) rfl (by omega) (RdJ.of hO2 HG10.out.1.lt))
                exact bodyPost_ret (v := .agg #[.slice (some ⟨W10.heap.size, 0, none⟩) 10 10]) (by have q := HF.out.2; simp [results, Tryd.results14, go_sem, q]) rfl HF.out.1
          · have hsb1 : (v6 == 1) = false := by rw [beq_eq_false_iff_ne]; exact hs1
            clear hR0 hp0 p0 hcb hfb hcx hfx
            obtain ⟨W8, hW8⟩ : ∃ W8, W8 = W7 := ⟨_, rfl⟩
            rw [← hW8] at HG7 ⊢
            clear hW8
            obtain ⟨A1, n1, c1, HG8, h1, h10⟩ : ∃ (A1 : Option Addr) (n1 c1 : Nat), Hid (Gst w W8 h A m c (p + 100) b A1 n1 c1) ∧ 1 ≤ n1 ∧ n1 ≤ 10 := ⟨_, _, _, Lib.hid (HG7.out.mono (by omega)), hN1, by omega⟩
            obtain ⟨⟨_, ⟨p0, hp0, hR0⟩, hcb, hfb, _⟩, hcx, hfx, _, _⟩ := HG8.out
            go_wp2_with fail
            refine (odd h m c p0 A n (by omega) (by omega) _ hR0).mono ?_
            rintro e W9 ⟨bo, p1, rfl, hp1, hR1, hg1⟩
            have HG9 := Lib.hid ((HG8.out.mono (K' := p + 101) (by omega)).pick hR1 hg1 (by omega))
            clear hR0 hp0 p0 hR1 hg1 hp1 p1 hcb hfb hcx hfx HG8
            cases bo
            · obtain ⟨⟨_, _, hcb, hfb, _⟩, hcx, hfx, _, _⟩ := HG9.out
              have HF := Lib.hid ((HG9.out.mono (K' := p + 200) (by omega)).fin h10)
              go_wp2_with fail
              exact bodyPost_ret (v := .agg #[.slice A1 n1 c1]) (by have q := HF.out.2; simp [results, Tryd.results14, go_sem, q]) rfl HF.out.1
            · obtain ⟨⟨_, ⟨p0, hp0, hR0⟩, hcb, hfb, _⟩, hcx, hfx, _, _⟩ := HG9.out
              go_wp2_with fail
              refine (pick h m c p0 A 4 (by omega) (by decide) _ hR0).mono ?_
              rintro e W10 ⟨v7, rfl, v7_0, v7_1, hR1, hg1⟩
              have v7_1 := v7_1 (by decide)
              have HG10 := Lib.hid (HG9.out.pick hR1 hg1 (by omega))
              clear hR0 hp0 p0 hR1 hg1 hcb hfb hcx hfx HG9
              obtain ⟨⟨hgA, hgB, hcb, hfb, hgC⟩, hcx, hfx, hgD, L, lo, hi2, hL, hO, hlo, hd⟩ := HG10.out
              have h0 : v7 = 0 ∨ v7 = 1 ∨ v7 = 2 ∨ v7 = 3 := by omega
              clear v7_0 v7_1
              rcases h0 with rfl | rfl | rfl | rfl
              · have HF := Lib.hid ((HG10.out.1.mono (K' := p + 200) (by omega)).fin (A1 := none) (n1 := 0) (c1 := 0) (l := []) rfl (by omega) (fun k hk => by simp at hk))
                clear hgA hgB hgC hgD hL hO hlo hd
                go_wp2_with fail
                exact bodyPost_ret (v := .agg #[.slice none 0 0]) (by have q := HF.out.2; simp [results, Tryd.results14, go_sem, q]) rfl HF.out.1
              · obtain ⟨r, c', e, _, _, hcell⟩ := hO.form (by omega)
                injection e with e1 e2 e3
                subst e1
                clear e2 e3
                obtain ⟨hck, hfk⟩ := hcell 0 (by omega)
                have hn1 : (0 : Int) < (n1 : Int) := by omega
                clear hgA hgB hgC hgD hL hO hlo hd hcell
                have HP := Lib.hid (fun x => HG10.out.put (r := r) 0 x)
                go_wp2_with fail
                go_region
                refine then_any (fun w2 => Gst w w2 h A m c (p + 101 + 1 + 1) b (some ⟨r, 0, none⟩) n1 c1) (HP.out _) ?_
                clear hck hfk hcb hfb hcx hfx HP HG10
                intro W11 hG11
                obtain ⟨⟨_, _, hcb, hfb, _⟩, hcx, hfx, _, _⟩ := id hG11
                have HF := Lib.hid ((hG11.mono (K' := p + 200) (by omega)).fin h10)
                clear hG11
                go_wp2_with fail
                exact bodyPost_ret (v := .agg #[.slice (some ⟨r, 0, none⟩) n1 c1]) (by have q := HF.out.2; simp [results, Tryd.results14, go_sem, q]) rfl HF.out.1
              · have HX := Lib.hid (lit_two HG10.out.1)
                have HF := Lib.hid ((HX.out.1.mono (K' := p + 200) (by omega)).fin (n1 := 2) (c1 := 2) (l := [2, 0]) rfl (by omega) HX.out.2)
                clear hgA hgB hgC hgD hL hO hlo hd
                obtain ⟨_, _, hcb2, hfb2, _⟩ := HX.out.1
                go_wp2_with fail
                exact bodyPost_ret (v := .agg #[.slice (some ⟨W10.heap.size, 0, none⟩) 2 2]) (by have q := HF.out.2; simp [results, Tryd.results14, go_sem, q]) rfl HF.out.1
              · clear hgA hgB hgC hgD hL hO hlo hd
                obtain ⟨i0, hi, hz0, hz1, hz2⟩ := info_parts info_int
                go_wp2_with (at_make; go_loud (refine wpList_make_full _ rfl _ _ 23 rfl W10.heap.size 3 i0 (.int .i64 0) 1 Tryd.underlying23 hi hz0 hz1 .i64 .i64 _ _ 10 rfl rfl rfl rfl (by rw [hz2]; omega) (by unfold maxLen; omega) (Nat.le_refl _) ?_); intro W12 hown hgrow; obtain ⟨_, _, hcb2, hfb2, _⟩ := HG10.out.1.grown hgrow (fun b e => by cases e))
                have HG12 := HG10.out.1.grown hgrow (fun b e => by cases e)
                have hO2 := made_ints hown
                have HF := Lib.hid ((HG12.mono (K' := p + 200) (by omega)).fin (n1 := 10) (c1 := 10) (l := List.replicate 10 0) rfl (by omega) (RdJ.of hO2 HG10.out.1.lt))
                exact bodyPost_ret (v := .agg #[.slice (some ⟨W10.heap.size, 0, none⟩) 10 10]) (by have q := HF.out.2; simp [results, Tryd.results14, go_sem, q]) rfl HF.out.1
end Go.Proofs.YtmghnfadgnolpaaDoor

