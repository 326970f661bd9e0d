/- QuietSets of the program and of the reference, each by its contract. No conditions. -/
import Derived.Test.YtooohgjmomhjoaaPress
import Derived.Test.YtooohgjmomhjoaaApp
import Derived.Deep.RegionHeld3
import Derived.Deep.DeepCutAuto
namespace Go.Proofs.Ytooohgjmomhjoaa
open Go.RowKit
theorem lt_pow_nat' {k n : Nat} (h : (k : Int) < 2 ^ n) : k < 2 ^ n := by rw [pow_nat] at h; omega
theorem eq_pow_nat' {k n : Nat} (h : k ≤ 2 ^ n) (h' : ¬ (k : Int) < 2 ^ n) : k = 2 ^ n := by rw [pow_nat] at h'; omega
set_option maxHeartbeats 1000000 in
theorem implQuietSets (l : List Int) (A : Option Addr) (c : Nat) (hl : l.length ≤ 1099511627776) (w : World) (hr : RdI w w.heap.size A l) :
    Calls Try.prog 16 #[.agg #[.slice A l.length c]] w fun e w' => ∃ v, e = .returned v ∧ OwnI w' w.heap.size w'.heap.size v (Sw.toI (Sw.vQs l)) ∧ Below w.heap.size w w' := by
  have hr1 := hr.at_ (below1 (.cells #[.slice A l.length c] 25))
  rcases Sw.gvB_cases l with hv | ⟨G, rfl, hG⟩
  · have HF := Lib.hid (Sw.vQs_no hv)
    go_enter Try.func16, Try.ntmps16
    go_wp2_with fail
    refine (implGraphValid_no l A c hl hv _ hr1).mono ?_
    rintro e w1 ⟨rfl, hb⟩
    obtain ⟨hb, hc, hz⟩ := box_after hb
    go_wp2_with fail
    go_ret
    exact ⟨_, rfl, by rw [HF.out]; exact OwnI.nil _, hb⟩
  · have HF := Lib.hid (Sw.vQs_yes hG)
    obtain ⟨ad, rfl, hrg⟩ := RdG.of hG hr
    have hn := hG.le
    have hp := pow9 hG.le
    have hp1 := pow1 G.length
    obtain ⟨i0, hi, hz0, hz1, hz2⟩ := info_parts info_int
    rw [Sw.toI_len]
    go_enter Try.func16, Try.ntmps16
    go_wp2_with fail
    refine (implGV G hG ad c _ (hrg.at_ (below1 _))).mono ?_
    rintro e w1 ⟨rfl, hb⟩
    obtain ⟨hb, hc, hz⟩ := box_after hb
    go_wp2_with fail
    go_loopw [3, 12] (fun q i wr => ∃ k : Nat, k ≤ 2 ^ G.length ∧ i = .int .i64 k ∧ ∃ (A : Option Addr) (n c' : Nat), q = .slice A n c' ∧ n = (Sw.qsK G k).length ∧ OwnI wr (w.heap.size + 1) wr.heap.size (.slice A n c') (Sw.toI (Sw.qsK G k)) ∧ Below w.heap.size w wr ∧ wr.cell? ⟨w.heap.size, 0, none⟩ = some (.slice (some ad) G.length c) ∧ w.heap.size < wr.heap.size) (fun _ i _ => (1024 - intOf i).toNat)
    case atStart => exact ⟨0, Nat.zero_le _, rfl, none, 0, 0, rfl, rfl, OwnI.nil (lo := w.heap.size + 1) _, hb, hc, hz⟩
    case round =>
      obtain ⟨k, hk, rfl, A, n, c', rfl, hnl, hO, hb, hc, hz⟩ := hrel
      have h512 := Sw.pow_le9 hn
      by_cases hlt : (k : Int) < 2 ^ G.length
      · have HN := Lib.hid (lt_pow_nat' hlt)
        have HA := Lib.hid (Sw.qsK_succ G k)
        have hnk := Sw.qsK_len G k
        have hk40 := lt40 hn HN.out
        have HK : Hid (k + 1 ≤ 2 ^ G.length) := by have := HN.out; show _ ≤ _; omega
        obtain ⟨L, hL⟩ : ∃ L, L = Sw.qsK G k := ⟨_, rfl⟩
        rw [← hL] at hO HA hnl hnk
        have hn512 : n ≤ 512 := by omega
        have HO := Lib.hid hO
        have HNL := Lib.hid hnl
        clear hk h512 hL hO hnl hnk
        go_wp2_with fail
        refine (pressesChange G hG ad c k hk40 _ (hrg.at_ hb)).mono ?_
        rintro e w2 ⟨rfl, hb2⟩
        have hO2 := (HO.out.below hb2 (Nat.le_refl _)).up
        obtain ⟨hb, hc, hz⟩ := box_next hb hc hz hb2
        have hO3 := hO2.1
        rw [Sw.toI_len, ← HNL.out] at hO3
        have HO2 := Lib.hid hO2
        have HO3 := Lib.hid hO3
        clear hO2 hO3 HO
        by_cases h0 : Sw.prs G k = 0
        · rw [if_pos h0] at HA
          rw [h0]
          clear h0
          go_wp2_with (at_builtin; go_loud (refine wpList_append_lies _ rfl _ _ 23 rfl (w.heap.size + 1) 3 i0 (.int .i64 0) 1 8 Try.underlying23 hi hz0 hz1 hz2 rfl (by decide) (.slice A n c') n (ints (Sw.toI L)) rfl (HO3.out.alloc _) ⟨w2.heap.size, 0, none⟩ 1 1 [.int .i64 (k : Int)] rfl rfl (World.news_of_block (heap_alloc_new w2 _)) (by intro u hu; simp at hu; subst hu; rfl) (by decide) (by unfold maxLen; omega) (by omega) (by simp; omega) _ rfl ?_); intro g cp w3 hown2 hgr2 hat2 hlt2)
          have hst := append_step hb hc hz HO3.out HNL.out hown2 hgr2
          obtain ⟨hO4, hb, hc, hz⟩ := hst
          have HO4 := Lib.hid hO4
          clear hO4 hown2 hgr2 hat2
          go_wp2_with fail
          go_roundw
          case rel => exact ⟨k + 1, HK.out, by go_num, some ⟨g, 0, none⟩, n + 1, cp, rfl, by rw [HA.out, List.length_append, HNL.out]; rfl, by rw [HA.out]; exact HO4.out, hb, hc, hz⟩
          case measure => simp [intOf]; omega
        · rw [if_neg h0] at HA
          have hne : (((Sw.prs G k : Nat) : Int) == 0) = false := by rw [beq_nat_zero]; exact decide_eq_false h0
          clear h0
          go_wp2_with fail
          go_roundw
          case rel => exact ⟨k + 1, HK.out, by go_num, A, n, c', rfl, by rw [HA.out, HNL.out], by rw [HA.out]; exact HO2.out, hb, hc, hz⟩
          case measure => simp [intOf]; omega
      · have HK := Lib.hid (eq_pow_nat' hk hlt)
        have HO := Lib.hid hO
        clear hk hO hnl
        go_wp2_with fail
        go_ret
        refine ⟨_, rfl, ?_, hb⟩
        have h1 := HO.out.lo_ (lo' := w.heap.size) (by omega)
        rw [HK.out] at h1
        rw [HF.out]; exact h1
/-- an empty literal behind a box -/
theorem lit_new (w : World) (o : Obj) : OwnI ((w.alloc o).alloc (.cells #[] 3)) (w.heap.size + 1) ((w.alloc o).alloc (.cells #[] 3)).heap.size (.slice (some ⟨w.heap.size + 1, 0, none⟩) 0 0) [] := by
  have := World.ownsRow_lit (w.alloc o) (e := 3) (base := w.heap.size + 1) (size := 1) #[] 0 (by simp) (by unfold maxLen; omega) rfl
  simp only [World.size_alloc] at this
  exact OwnI.own this
end Go.Proofs.Ytooohgjmomhjoaa

