/- DrawQuiet: the draw. Conditions: at most 2^40 bytes. -/
import Derived.Test.YtakgcdiofpijmaaDp
import Derived.Test.YtakgcdiofpijmaaLit
import Derived.Test.YtakgcdiofpijmaaQs
namespace Go.Proofs.Ytakgcdiofpijmaa
open Go.RowKit
theorem Dq.below {W1 W W' : World} {h m c K b n1 c1 : Nat} {A A1 : Option Addr} {l : List Int} (g : Dq W1 W h A m c K b A1 n1 c1 l) (hb : Below W.heap.size W W') : Dq W1 W' h A m c K b A1 n1 c1 l := by
  obtain ⟨g1, ⟨p, hp, hR⟩, g3, g4, g5, g6, g7, g8⟩ := g
  have hg := grown_of_below hb
  exact ⟨grow_trans g1 hg (fun q e => by cases e), ⟨p, hp, hR.grown hg (fun q e => by cases e)⟩, hg.cell g3 (by intro e; cases e), g4, g5, g6, g7.grown hg (fun q e => by cases e), g8⟩
theorem RdJ.cells {w : World} {lo : Nat} {ad : Addr} {l : List Int} (h : RdJ w lo (some ad) l) : ∀ V : Nat, V < l.length → w.cell? (ad.add V) = some (.int .i64 (Sw.gat l V)) := fun V hV => by
  obtain ⟨ad', e, _, _, hc⟩ := h V hV
  injection e with e
  subst e
  exact hc
theorem grown_store (W : World) (z : Nat) (v : Value) : W.grownBy (W.setCell ⟨z, 0, none⟩ v) (some z) := ⟨rfl, rfl, rfl, by simp [World.setCell], fun j _ hj => Below.heap_setCell _ _ _ _ (fun e => hj (by rw [e]))⟩
set_option maxRecDepth 100000 in
set_option maxHeartbeats 4000000 in
theorem drawQuiet (A : Option Addr) (n c : Nat) (hn : n ≤ 1099511627776) (hc : n ≤ c) (w : World) (hB : RdB w w.heap.size A n) :
    Calls Try.prog 35 #[.slice A n c] w (DrawGI w) := by
  have hB1 := hB.at_ (below1 (.cells #[.slice none 0 0] 27))
  go_enter Try.func35, Try.ntmps35
  go_wp2_with fail
  refine (l20Open A n c hn hc _ hB1).mono ?_
  rintro e W1 ⟨A', m, rfl, hR, hb⟩
  obtain ⟨hb1, hc1, hz1⟩ := box_after hb
  have hf1 : W1.frozen? ⟨w.heap.size, 0, none⟩ = false := by rw [hb.frozen (by simp)]; simp [go_sem]
  simp only [World.size_alloc] at hR
  have hh0 := hR.2.2.2.2.2
  go_wp2_with fail
  refine (l20Set (w.heap.size + 1) m c 0 A' 9 (by omega) (by omega) _ hR).mono ?_
  rintro e W2 ⟨A1, c1, p', l, s0, rfl, h10, hp1, hR2, hg, hr⟩
  have HD0 := Lib.hid (Dq.start (c1 := c1) hh0 27 hg hp1 hR2 rfl hr h10)
  obtain ⟨h, hhe⟩ : ∃ h, h = w.heap.size + 1 := ⟨_, rfl⟩
  rw [← hhe] at HD0 ⊢
  have hh : w.heap.size < h := by omega
  obtain ⟨_, _, hS0, hhW, hWb, _, hJ, _⟩ := HD0.out
  have hJ := hJ.rd
  clear hR hg hr hb hR2 hB hB1 hhe hh0
  go_wp2_with fail
  refine (specQuietSets l A1 c1 (by omega) _ hJ).mono ?_
  rintro e W3 ⟨v, rfl, hO, hb3⟩
  obtain ⟨A2, c2, rfl, _⟩ := hO.rd
  have HD1 := Lib.hid (HD0.out.below hb3)
  have hL := RdJ.of (lo2 := h + 1) hO (by simp; omega)
  obtain ⟨L, hLe⟩ : ∃ L, L = Sw.toI (Sw.vQs l) := ⟨_, rfl⟩
  rw [← hLe] at hL ⊢
  have HJ := Lib.hid hL
  obtain ⟨_, ⟨p0, hp0, hR0⟩, hS0, _, _, _, _, _⟩ := HD1.out
  obtain ⟨hcbx, hfbx⟩ := HD1.out.box hh hc1 hf1
  have HF1 := Lib.hid (HD1.out.fin hb1 hz1 hh hc1)
  clear hO hb3 hJ hL hLe
  by_cases hp0L : (0 : Int) < (L.length : Int)
  · have hdp : decide ((0 : Int) < (L.length : Int)) = true := decide_eq_true hp0L
    clear hcbx hfbx HF1
    go_wp2_with fail
    refine (pick h m c p0 A' 2 (by omega) (by decide) _ hR0).mono ?_
    rintro e W4 ⟨v0, rfl, v0_0, v0_1, hR1, hg1⟩
    have HD2 := Lib.hid (HD1.out.pick hR1 hg1 (by omega))
    have HJ2 := Lib.hid (HJ.out.grown hg1 (fun q e => by injection e with e; omega))
    obtain ⟨_, _, hS0, _, _, _, _, _⟩ := HD2.out
    obtain ⟨hcbx, hfbx⟩ := HD2.out.box hh hc1 hf1
    have HF2 := Lib.hid (HD2.out.fin hb1 hz1 hh hc1)
    clear hR0 hg1
    by_cases hz0 : v0 = 0
    · subst hz0
      by_cases hmn : (256 : Int) < (L.length : Int)
      · skip
        obtain ⟨ad2, rfl, _⟩ := HJ2.out 0 (by omega)
        have hSS0 := And.intro hS0 HJ2.out.cells
        go_wp2_with fail
        go_region_held3 (fun w' => w'.cell? ⟨W2.heap.size, 0, none⟩ = some (.slice A1 l.length c1) ∧ ∀ V : Nat, V < L.length → w'.cell? (ad2.add V) = some (.int .i64 (Sw.gat L V))) (first | exact hSS0 | exact hSS1 | exact hSS2) (first | (go_at_call 42; refine (pick h m c (p0 + 1) A' 256 (by omega) (by omega) _ (by exact hR1)).mono ?_; rintro e W5 ⟨v1, rfl, v1_0, v1_1, hR2, hg2⟩; have v1_2 := v1_1 (by omega); clear v1_1; obtain ⟨V, rfl⟩ := Int.eq_ofNat_of_zero_le v1_0; have hVL : (V : Int) < (L.length : Int) := (by omega); have hV0 : (0 : Int) ≤ (V : Int) := (by omega); have HD3 := Lib.hid (HD2.out.draw.pick hR2 (by exact hg2) (by omega)); have hVn : V < L.length := (by omega); have HJ3 := Lib.hid (RdJ.grown (w := W4.drew) (by exact HJ2.out) (by exact hg2) (fun q e => by injection e with e; omega)); have hSS1 := And.intro HD3.out.2.2.1 HJ3.out.cells; obtain ⟨hcbF, hfbF⟩ := HD3.out.box hh hc1 hf1; have HF := Lib.hid (HD3.out.fin hb1 hz1 hh hc1); have hSS2 := And.intro HF.out.2.2 (RdJ.cells (RdJ.grown HJ3.out (grown_store W5 w.heap.size (.slice A1 l.length c1)) (fun q e => by injection e with e; omega)))))
        go_wp2_with fail
        obtain ⟨l2, hl2, q1, q2, q3⟩ := HF.out.1.parts
        refine bodyPost_ret (v := .tuple #[.agg #[.slice A1 l.length c1], .int .i64 _]) (by have q := HF.out.2.1; simp [results, Try.results35, go_sem, q]; try rfl) rfl ⟨A1, c1, l2, _, by rw [hl2], q1, q2, q3⟩
      · have hmf : ((256 : Int) < (L.length : Int)) = False := eq_false hmn
        have hm6 : (L.length : Int) ≤ 256 := by omega
        clear hmn
        obtain ⟨ad2, rfl, _⟩ := HJ2.out 0 (by omega)
        have hSS0 := And.intro hS0 HJ2.out.cells
        go_wp2_with fail
        go_region_held3 (fun w' => w'.cell? ⟨W2.heap.size, 0, none⟩ = some (.slice A1 l.length c1) ∧ ∀ V : Nat, V < L.length → w'.cell? (ad2.add V) = some (.int .i64 (Sw.gat L V))) (first | exact hSS0 | exact hSS1 | exact hSS2) (first | (go_at_call 42; refine (pick h m c (p0 + 1) A' L.length (by omega) (by omega) _ (by exact hR1)).mono ?_; rintro e W5 ⟨v1, rfl, v1_0, v1_1, hR2, hg2⟩; have v1_2 := v1_1 (by omega); clear v1_1; obtain ⟨V, rfl⟩ := Int.eq_ofNat_of_zero_le v1_0; have hVL : (V : Int) < (L.length : Int) := (by omega); have hV0 : (0 : Int) ≤ (V : Int) := (by omega); have HD3 := Lib.hid (HD2.out.draw.pick hR2 (by exact hg2) (by omega)); have hVn : V < L.length := (by omega); have HJ3 := Lib.hid (RdJ.grown (w := W4.drew) (by exact HJ2.out) (by exact hg2) (fun q e => by injection e with e; omega)); have hSS1 := And.intro HD3.out.2.2.1 HJ3.out.cells; obtain ⟨hcbF, hfbF⟩ := HD3.out.box hh hc1 hf1; have HF := Lib.hid (HD3.out.fin hb1 hz1 hh hc1); have hSS2 := And.intro HF.out.2.2 (RdJ.cells (RdJ.grown HJ3.out (grown_store W5 w.heap.size (.slice A1 l.length c1)) (fun q e => by injection e with e; omega)))))
        go_wp2_with fail
        obtain ⟨l2, hl2, q1, q2, q3⟩ := HF.out.1.parts
        refine bodyPost_ret (v := .tuple #[.agg #[.slice A1 l.length c1], .int .i64 _]) (by have q := HF.out.2.1; simp [results, Try.results35, go_sem, q]; try rfl) rfl ⟨A1, c1, l2, _, by rw [hl2], q1, q2, q3⟩
    · go_wp2_with fail
      obtain ⟨l2, hl2, q1, q2, q3⟩ := HF2.out.1.parts
      refine bodyPost_ret (v := .tuple #[.agg #[.slice A1 l.length c1], .int .i64 _]) (by have q := HF2.out.2.1; simp [results, Try.results35, go_sem, q]; try rfl) rfl ⟨A1, c1, l2, _, by rw [hl2], q1, q2, q3⟩
  · have hdp : decide ((0 : Int) < (L.length : Int)) = false := decide_eq_false hp0L
    go_wp2_with fail
    obtain ⟨l2, hl2, q1, q2, q3⟩ := HF1.out.1.parts
    refine bodyPost_ret (v := .tuple #[.agg #[.slice A1 l.length c1], .int .i64 _]) (by have q := HF1.out.2.1; simp [results, Try.results35, go_sem, q]; try rfl) rfl ⟨A1, c1, l2, _, by rw [hl2], q1, q2, q3⟩
end Go.Proofs.Ytakgcdiofpijmaa

