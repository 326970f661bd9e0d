/- DrawPressRun: the draw of a graph, lights and a list of presses; weak contract. Conditions: at most 2^40 bytes. -/
import Derived.Test.YtooohgjmomhjoaaDz
import Derived.Test.YtooohgjmomhjoaaLit
namespace Go.Proofs.Ytooohgjmomhjoaa
open Go.RowKit
def DrawGIP (w : World) (e : Ending) (w' : World) : Prop :=
  ∃ (A1 A2 : Option Addr) (c1 c2 : Nat) (l P : List Int) (s : Int), e = .returned (.tuple #[.agg #[.slice A1 l.length c1], .int .i64 s, .slice A2 P.length c2]) ∧ l.length ≤ 10 ∧ P.length ≤ 41 ∧ RdI w' w'.heap.size A1 l ∧ RdI w' w'.heap.size A2 P ∧ Below w.heap.size w w'
set_option maxRecDepth 100000 in
set_option maxHeartbeats 4000000 in
theorem drawPressRun (A : Option Addr) (n c : Nat) (hn : n ≤ 1099511627776) (hc : n ≤ c) (w : World) (hB : RdB w w.heap.size A n) :
    Calls Try.prog 6 #[.slice A n c] w (DrawGIP w) := by
  have hB1 := hB.at_ (below1 (.cells #[.slice none 0 0] 25))
  obtain ⟨i0, hi, hz0, hz1i, hz2⟩ := info_parts info_int
  go_enter Try.func6, Try.ntmps6
  go_wp2_with fail
  refine (l20Open A n c hn hc _ hB1).mono ?_
  rintro e W1 ⟨A', m, rfl, hR, hb⟩
  obtain ⟨hb1, hc1, hz1⟩ := box_after hb
  have hf1 : W1.frozen? ⟨w.heap.size, 0, none⟩ = false := by rw [hb.frozen (by simp)]; simp [go_sem]
  simp only [World.size_alloc] at hR
  have hh0 := hR.2.2.2.2.2
  go_wp2_with fail
  refine (l20Lit (w.heap.size + 1) m c 0 A' 12 (by omega) (by omega) _ hR).mono ?_
  rintro e W2 ⟨A1, c1, p', l, s0, rfl, h10, hp1, hR2, hg, hr⟩
  have HD0 := Lib.hid (Dz.start (c1 := c1) hh0 25 hg hp1 hR2 rfl hr h10)
  obtain ⟨h, hhe⟩ : ∃ h, h = w.heap.size + 1 := ⟨_, rfl⟩
  rw [← hhe] at HD0 ⊢
  have hh : w.heap.size < h := by omega
  obtain ⟨_, ⟨p0, hp0, hR0⟩, _⟩ := HD0.out
  clear hR hg hr hb hR2 hB hB1 hhe hh0
  go_wp2_with fail
  refine (pick h m c p0 A' 12 (by omega) (by decide) _ hR0).mono ?_
  rintro e W3 ⟨v0, rfl, v0_0, v0_1, hR1, hg1⟩
  have v0_1 := v0_1 (by decide)
  obtain ⟨k0, rfl⟩ := Int.eq_ofNat_of_zero_le v0_0
  have HD1 := Lib.hid ((HD0.out.pick hR1 hg1 (by omega)).mono (show 0 + 206 + 1 ≤ 300 - 2 * k0 by omega))
  clear hR0 hR1 hg1 hp0 p0
  go_wp2_with fail
  go_loopw [8, 9] (fun q i wr => ∃ k : Nat, k ≤ 11 ∧ i = .int .i64 k ∧ ∃ (A2 : Option Addr) (n2 c2 : Nat) (P : List Int), q = .slice A2 n2 c2 ∧ n2 + k ≤ 11 ∧ Dz W1 wr h A' m c (300 - 2 * k) W2.heap.size A1 l.length c1 l A2 n2 c2 P) (fun _ i _ => (intOf i).toNat)
  case atStart => exact ⟨k0, by omega, rfl, _, 0, 0, [], rfl, by omega, HD1.out⟩
  case round =>
    obtain ⟨k, hk, rfl, A2, n2, c2, P, rfl, hnk, hD⟩ := hrel
    have HD := Lib.hid hD
    clear hD HD0 HD1
    obtain ⟨_, ⟨p0, hp0, hR0⟩, hS0, _⟩ := HD.out
    by_cases hk0 : (0 : Int) < (k : Int)
    · have hd : decide ((0 : Int) < (k : Int)) = true := decide_eq_true hk0
      by_cases hl1 : (l.length : Int) < 1
      · go_wp2_with fail
        refine (pick h m c p0 A' 1 (by omega) (by omega) _ hR0).mono ?_
        rintro e W4 ⟨v1, rfl, v1_0, v1_1, hR1, hg1⟩
        have v1_1 := v1_1 (by omega)
        have HD2 := Lib.hid (HD.out.pick hR1 hg1 (by omega))
        clear hR0 hg1 hS0
        go_wp2_with fail
        refine (pick h m c (p0 + 1) A' 80 (by omega) (by decide) _ hR1).mono ?_
        rintro e W5 ⟨v2, rfl, v2_0, v2_1, hR2, hg2⟩
        have v2_1 := v2_1 (by decide)
        have HD3 := Lib.hid ((HD2.out.pick hR2 hg2 (by omega)).mono (show 300 - 2 * k + 1 + 1 ≤ 300 - 2 * (k - 1) by omega))
        obtain ⟨_, _, _, _, _, _, _, _, hO, hPn⟩ := HD3.out
        have HO := Lib.hid hO.1
        rw [hPn] at HO
        have HPN := Lib.hid hPn
        have hbW : W2.heap.size < W5.heap.size := World.block_lt_of_cell? W5 _ HD3.out.2.2.1
        clear hR1 hR2 hg2 hO hPn hd
        go_wp2_with (at_builtin; go_loud (refine wpList_append_lies _ rfl _ _ 23 rfl (W2.heap.size + 1) 3 i0 (.int .i64 0) 1 8 Try.underlying23 hi hz0 hz1i hz2 rfl (by decide) (.slice A2 n2 c2) n2 (ints P) rfl (HO.out.alloc _) ⟨W5.heap.size, 0, none⟩ 1 1 [.int .i64 _] rfl rfl (World.news_of_block (heap_alloc_new W5 _)) (by intro u hu; simp at hu; subst hu; rfl) (by decide) (by unfold maxLen; omega) (by omega) (by simp; omega) _ rfl ?_); intro g cp w3 hown2 hgr2 hat2 hlt2)
        have HD4 := Lib.hid (HD3.out.add hown2 hgr2)
        clear hown2 hgr2 hat2
        go_wp2_with fail
        go_roundw
        case rel => exact ⟨k - 1, by omega, val_i (by omega), _, n2 + 1, cp, _, rfl, by omega, HD4.out⟩
        case measure => simp [intOf]; omega
      · go_wp2_with fail
        refine (pick h m c p0 A' l.length (by omega) (by omega) _ hR0).mono ?_
        rintro e W4 ⟨v1, rfl, v1_0, v1_1, hR1, hg1⟩
        have v1_1 := v1_1 (by omega)
        have HD2 := Lib.hid (HD.out.pick hR1 hg1 (by omega))
        clear hR0 hg1 hS0
        go_wp2_with fail
        refine (pick h m c (p0 + 1) A' 80 (by omega) (by decide) _ hR1).mono ?_
        rintro e W5 ⟨v2, rfl, v2_0, v2_1, hR2, hg2⟩
        have v2_1 := v2_1 (by decide)
        have HD3 := Lib.hid ((HD2.out.pick hR2 hg2 (by omega)).mono (show 300 - 2 * k + 1 + 1 ≤ 300 - 2 * (k - 1) by omega))
        obtain ⟨_, _, _, _, _, _, _, _, hO, hPn⟩ := HD3.out
        have HO := Lib.hid hO.1
        rw [hPn] at HO
        have HPN := Lib.hid hPn
        have hbW : W2.heap.size < W5.heap.size := World.block_lt_of_cell? W5 _ HD3.out.2.2.1
        clear hR1 hR2 hg2 hO hPn hd
        go_wp2_with (at_builtin; go_loud (refine wpList_append_lies _ rfl _ _ 23 rfl (W2.heap.size + 1) 3 i0 (.int .i64 0) 1 8 Try.underlying23 hi hz0 hz1i hz2 rfl (by decide) (.slice A2 n2 c2) n2 (ints P) rfl (HO.out.alloc _) ⟨W5.heap.size, 0, none⟩ 1 1 [.int .i64 _] rfl rfl (World.news_of_block (heap_alloc_new W5 _)) (by intro u hu; simp at hu; subst hu; rfl) (by decide) (by unfold maxLen; omega) (by omega) (by simp; omega) _ rfl ?_); intro g cp w3 hown2 hgr2 hat2 hlt2)
        have HD4 := Lib.hid (HD3.out.add hown2 hgr2)
        clear hown2 hgr2 hat2
        go_wp2_with fail
        go_roundw
        case rel => exact ⟨k - 1, by omega, val_i (by omega), _, n2 + 1, cp, _, rfl, by omega, HD4.out⟩
        case measure => simp [intOf]; omega
    · have hd : decide ((0 : Int) < (k : Int)) = false := decide_eq_false hk0
      clear hS0
      go_wp2_with fail
      refine (odd h m c p0 A' 40 (by omega) (by decide) _ hR0).mono ?_
      rintro e W4 ⟨o, p1, rfl, hp1', hR1, hg1⟩
      have HD2 := Lib.hid (HD.out.pick hR1 hg1 (by omega))
      obtain ⟨hcbx, hfbx⟩ := HD2.out.box hh hc1 hf1
      obtain ⟨_, _, hS0, _, _, _, _, _, _, hPn⟩ := HD2.out
      have HPN := Lib.hid hPn
      clear hR0 hR1 hg1 hPn
      cases o
      · have HF := Lib.hid (HD2.out.fin hb1 hz1 hh hcbx).1
        go_wp2_with fail
        refine bodyPost_ret (v := .tuple #[.agg #[.slice A1 l.length c1], .int .i64 s0, .slice A2 n2 c2]) (by have q := HF.out.2.2.2.2; simp [results, Try.results6, go_sem, q]; try rfl) rfl ⟨A1, A2, c1, c2, l, P, s0, (by rw [HPN.out]), h10, (by have := HPN.out; omega), HF.out.2.2.1, HF.out.2.2.2.1, HF.out.1⟩
      · have hmk : ∀ W, (Instr.makeSlice 23 (.int .i64 41) (.int .i64 41)).run Try.prog W = .ok (.slice (some ⟨W.heap.size, 0, none⟩) 41 41) (W.alloc (.cells (madeCells #[.int .i64 0] 41) 3)) := run_make_row' (P := Try.prog) 23 3 (.int .i64 0) 8 Try.underlying23 info_int rfl .i64 .i64 41 (by decide) (by decide)
        have hbW : W2.heap.size < W4.heap.size := World.block_lt_of_cell? W4 _ hS0
        have hzW : w.heap.size < W4.heap.size := World.block_lt_of_cell? W4 _ hcbx
        have hS1 : (W4.drew.alloc (.cells (madeCells #[.int .i64 0] 41) 3)).cell? ⟨W2.heap.size, 0, none⟩ = some (.slice A1 l.length c1) := ((below1 (w := W4.drew) _).cell hbW).trans hS0
        have HDa := Lib.hid (HD2.out.draw.row (World.grownBy_alloc W4.drew (.cells (madeCells #[.int .i64 0] 41) 3) none) (zero_row W4.drew 41 (by decide)) (by rw [List.length_replicate]))
        have hca : (W4.drew.alloc (.cells (madeCells #[.int .i64 0] 41) 3)).cell? ⟨w.heap.size, 0, none⟩ = some (.slice none 0 0) := ((below1 (w := W4.drew) _).cell hzW).trans hcbx
        have hfa : (W4.drew.alloc (.cells (madeCells #[.int .i64 0] 41) 3)).frozen? ⟨w.heap.size, 0, none⟩ = false := ((below1 (w := W4.drew) _).frozen hzW).trans hfbx
        have HF1 := Lib.hid (HDa.out.fin hb1 hz1 hh hca)
        have hS2 := HF1.out.2
        have HF2 := Lib.hid (HD2.out.draw.fin hb1 hz1 hh hcbx)
        have hS3 := HF2.out.2
        have HF3 := Lib.hid (HF2.out.1.row (World.grownBy_alloc (W4.drew.setCell ⟨w.heap.size, 0, none⟩ (.slice A1 l.length c1)) (.cells (madeCells #[.int .i64 0] 41) 3) none) (zero_row (W4.drew.setCell ⟨w.heap.size, 0, none⟩ (.slice A1 l.length c1)) 41 (by decide)))
        have hS4 : ((W4.drew.setCell ⟨w.heap.size, 0, none⟩ (.slice A1 l.length c1)).alloc (.cells (madeCells #[.int .i64 0] 41) 3)).cell? ⟨W2.heap.size, 0, none⟩ = some (.slice A1 l.length c1) := ((below1 _).cell (by simpa [World.setCell] using hbW)).trans hS3
        go_wp2_with fail
        go_region_held3 (fun w' => w'.cell? ⟨W2.heap.size, 0, none⟩ = some (.slice A1 l.length c1)) (first | exact hS0 | exact hS1 | exact hS2 | exact hS3 | exact hS4) (fail)
        all_goals
          go_wp2_with fail
          refine bodyPost_ret (v := .tuple #[.agg #[.slice A1 l.length c1], .int .i64 s0, .slice (some ⟨W4.heap.size, 0, none⟩) 41 41]) (by have q : ((W4.setCell ⟨w.heap.size, 0, none⟩ (.slice A1 l.length c1)).alloc (.cells (madeCells #[.int .i64 0] 41) 3)).cell? ⟨w.heap.size, 0, none⟩ = some (.slice A1 l.length c1) := HF3.out.2.2.2.2; simp [results, Try.results6, go_sem, q]; try rfl) rfl ⟨A1, some ⟨W4.heap.size, 0, none⟩, c1, 41, l, List.replicate 41 0, s0, by rw [List.length_replicate], h10, by rw [List.length_replicate]; exact Nat.le_refl _, HF3.out.2.2.1, (by have q := HF3.out.2.2.2.1; rw [show (W4.drew.setCell ⟨w.heap.size, 0, none⟩ (.slice A1 l.length c1)).heap.size = W4.heap.size from by simp [World.setCell]] at q; exact q), HF3.out.1⟩
end Go.Proofs.Ytooohgjmomhjoaa

