/- LineSet: the draw. Conditions: at most 2^40 bytes. -/
import Derived.Test.YtabcjobggceaaaaDp
namespace Go.Proofs.Ytabcjobggceaaaa
open Go.RowKit
def DrawGIIB (w : World) (e : Ending) (w' : World) : Prop :=
  ∃ (A1 : Option Addr) (c1 : Nat) (l : List Int) (a b : Int) (on : Bool), e = .returned (.tuple #[.agg #[.slice A1 l.length c1], .int .i64 a, .int .i64 b, .bool on]) ∧ l.length ≤ 10 ∧ RdI w' w'.heap.size A1 l ∧ Below w.heap.size w w'
set_option maxRecDepth 100000 in
set_option maxHeartbeats 4000000 in
theorem drawLineSet (A : Option Addr) (n c : Nat) (hn : n ≤ 1099511627776) (hc : n ≤ c) (w : World) (hB : RdB w w.heap.size A n) :
    Calls Try.prog 24 #[.slice A n c] w (DrawGIIB w) := by
  have hB1 := hB.at_ (below1 (.cells #[.slice none 0 0] 25))
  go_enter Try.func24, Try.ntmps24
  go_wp2_with fail
  refine (l20Open A n c hn hc _ hB1).mono ?_
  rintro e W1 ⟨A', m, rfl, hR, hb⟩
  obtain ⟨hb1, hc1, hz1⟩ := box_after hb
  have hf1 : W1.frozen? ⟨w.heap.size, 0, none⟩ = false := by rw [hb.frozen (by simp)]; simp [go_sem]
  simp only [World.size_alloc] at hR
  have hh0 := hR.2.2.2.2.2
  go_wp2_with fail
  refine (l20Graph (w.heap.size + 1) m c 0 A' 12 (by omega) (by omega) _ hR).mono ?_
  rintro e W2 ⟨A1, n1, c1, p', l, rfl, h10, hp1, hR2, hg, hl, hr⟩
  have HD0 := Lib.hid (Dq.start (c1 := c1) hh0 25 hg hp1 hR2 hl hr h10)
  obtain ⟨h, hhe⟩ : ∃ h, h = w.heap.size + 1 := ⟨_, rfl⟩
  rw [← hhe] at HD0 ⊢
  have hh : w.heap.size < h := by omega
  obtain ⟨_, ⟨p0, hp0, hR0⟩, hS0, _, _, _, _, _⟩ := HD0.out
  obtain ⟨hcbx, hfbx⟩ := HD0.out.box hh hc1 hf1
  clear hR hg hr hb hR2 hB hB1 hl hhe hh0
  have hw1 : IntKind.i64.wrap ((n1 : Int) + 1) = (n1 : Int) + 1 := IntWalk.i64_in _ (by omega)
  go_wp2_with fail
  go_region_held3 (fun w' => w'.cell? ⟨W2.heap.size, 0, none⟩ = some (.slice A1 n1 c1)) (first | exact hS0 | exact hS1 | exact hS2 | exact hS3 | exact hS4 | exact hS5) (first | (have hq := hR3; clear hq; go_at_call 41; refine (pick h m c (p0 + 1 + 1 + 1) A' 2 (by omega) (by omega) _ (by exact hR3)).mono ?_; rintro e W6 ⟨v4, rfl, v4_0, v4_1, hR4, hg4⟩; have HD4 := Lib.hid (HD3.out.pick hR4 (by exact hg4) (by omega)); have hS4 := HD4.out.2.2.1; obtain ⟨hcbF, hfbF⟩ := HD4.out.box hh hc1 hf1; have HF := Lib.hid (HD4.out.fin hb1 hz1 hh hc1); have hS5 := HF.out.2.2) | (have hq := hR2; clear hq; go_at_call 41; refine (pick h m c (p0 + 1 + 1) A' ((n1 : Int) + 1) (by omega) (by omega) _ (by exact hR2)).mono ?_; rintro e W5 ⟨v3, rfl, v3_0, v3_1, hR3, hg3⟩; have HD3 := Lib.hid (HD2.out.pick hR3 (by exact hg3) (by omega)); have hS3 := HD3.out.2.2.1) | (have hq := hR1; clear hq; go_at_call 41; refine (pick h m c (p0 + 1) A' 20 (by omega) (by omega) _ (by exact hR1)).mono ?_; rintro e W4 ⟨v2, rfl, v2_0, v2_1, hR2, hg2⟩; have HD2 := Lib.hid (HD1.out.pick hR2 (by exact hg2) (by omega)); have hS2 := HD2.out.2.2.1) | (go_at_call 41; refine (pick h m c (p0) A' ((n1 : Int) + 1) (by omega) (by omega) _ (by exact hR0)).mono ?_; rintro e W3 ⟨v1, rfl, v1_0, v1_1, hR1, hg1⟩; have HD1 := Lib.hid (HD0.out.draw.pick hR1 (by exact hg1) (by omega)); have hS1 := HD1.out.2.2.1))
  go_wp2_with fail
  obtain ⟨l2, rfl, q1, q2, q3⟩ := HF.out.1.parts
  refine bodyPost_ret (v := .tuple #[.agg #[.slice A1 l2.length c1], .int .i64 (IntKind.i64.wrap (v1 - IntKind.i64.wrap (v2.tdiv 19))), .int .i64 v3, .bool (v4 == 0)]) (by have q := HF.out.2.1; simp [results, Try.results24, go_sem, q]; try rfl) rfl ⟨A1, c1, l2, _, _, _, rfl, q1, q2, q3⟩
end Go.Proofs.Ytabcjobggceaaaa

