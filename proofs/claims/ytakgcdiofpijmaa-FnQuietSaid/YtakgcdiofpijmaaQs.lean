/- QuietSets of the program and of the reference, each by its contract. No conditions. -/
import Derived.Test.YtakgcdiofpijmaaPress
import Derived.Test.YtakgcdiofpijmaaApp
import Derived.Deep.RegionHeld3
import Derived.Deep.DeepCutAuto
namespace Go.Proofs.Ytakgcdiofpijmaa
open Go.RowKit
theorem lt_pow_nat' {k n : Nat} (h : (k : Int) < 2 ^ n) : k < 2 ^ n := by rw [pow_nat] at h; omega
theorem eq_pow_nat' {k n : Nat} (h : k ≤ 2 ^ n) (h' : ¬ (k : Int) < 2 ^ n) : k = 2 ^ n := by rw [pow_nat] at h'; omega
/-- an empty literal behind a box -/
theorem lit_new (w : World) (o : Obj) : OwnI ((w.alloc o).alloc (.cells #[] 3)) (w.heap.size + 1) ((w.alloc o).alloc (.cells #[] 3)).heap.size (.slice (some ⟨w.heap.size + 1, 0, none⟩) 0 0) [] := by
  have := World.ownsRow_lit (w.alloc o) (e := 3) (base := w.heap.size + 1) (size := 1) #[] 0 (by simp) (by unfold maxLen; omega) rfl
  simp only [World.size_alloc] at this
  exact OwnI.own this
set_option maxHeartbeats 2000000 in
theorem specQuietSets (l : List Int) (A : Option Addr) (c : Nat) (hl : l.length ≤ 1099511627776) (w : World) (hr : RdI w w.heap.size A l) :
    Calls Try.prog 56 #[.agg #[.slice A l.length c]] w fun e w' => ∃ v, e = .returned v ∧ OwnI w' w.heap.size w'.heap.size v (Sw.toI (Sw.vQs l)) ∧ Below w.heap.size w w' := by
  have hr1 := hr.at_ (below1 (.cells #[.slice A l.length c] 27))
  have HLit := Lib.hid (lit_new w (.cells #[.slice A l.length c] 27))
  have hb2 := below2 (w := w) (.cells #[.slice A l.length c] 27) (.cells #[] 3)
  have hc2 : ((w.alloc (.cells #[.slice A l.length c] 27)).alloc (.cells #[] 3)).cell? ⟨w.heap.size, 0, none⟩ = some (.slice A l.length c) := by simp [go_sem]
  rcases Sw.gvB_cases l with hv | ⟨G, rfl, hG⟩
  · have HF := Lib.hid (Sw.vQs_no hv)
    have hrb := hr.at_ hb2
    have HB2 := Lib.hid hb2
    have HC2 := Lib.hid hc2
    clear hb2 hc2
    by_cases h9 : (l.length : Int) ≤ 9
    · have hp : (2 : Int) ^ l.length ≤ 512 := pow9 (by omega)
      have hp1 := pow1 l.length
      go_enter Try.func56, Try.ntmps56
      go_wp2_with fail
      refine wp_loop_rounds 1 ?_
      rw [rounds_succ]
      go_wp2_with fail
      refine (specGraphValid_no l A c hl hv _ hrb).mono ?_
      rintro e w1 ⟨rfl, hb⟩
      go_wp2_with fail
      go_ret
      have h1 := (HLit.out.below hb (Nat.le_refl _)).up.lo_ (lo' := w.heap.size) (by omega)
      exact ⟨_, rfl, by rw [HF.out]; exact h1, HB2.out.trans (hb.mono (by simp; omega))⟩
    · have hw : wrap64 512 = 512 := by unfold wrap64; rfl
      go_enter Try.func56, Try.ntmps56
      go_wp2_with fail
      refine wp_loop_rounds 1 ?_
      rw [rounds_succ]
      go_wp2_with fail
      refine (specGraphValid_no l A c hl hv _ hrb).mono ?_
      rintro e w1 ⟨rfl, hb⟩
      go_wp2_with fail
      go_ret
      have h1 := (HLit.out.below hb (Nat.le_refl _)).up.lo_ (lo' := w.heap.size) (by omega)
      exact ⟨_, rfl, by rw [HF.out]; exact h1, HB2.out.trans (hb.mono (by simp; omega))⟩
  · have HF := Lib.hid (Sw.vQs_yes hG)
    obtain ⟨ad, rfl, hrg⟩ := RdG.of hG hr
    have hn := hG.le
    have hp := pow9 hG.le
    have hp1 := pow1 G.length
    have hmin : min (G.length : Int) 9 = (G.length : Int) := by omega
    obtain ⟨i0, hi, hz0, hz1, hz2⟩ := info_parts info_int
    rw [Sw.toI_len] at hc2 HLit hb2
    rw [Sw.toI_len]
    have hz2' : w.heap.size < ((w.alloc (.cells #[.slice (some ad) G.length c] 27)).alloc (.cells #[] 3)).heap.size := by simp; omega
    have HB2 := Lib.hid hb2
    have HC2 := Lib.hid hc2
    have HZ2 := Lib.hid hz2'
    clear hb2 hc2 hz2'
    go_enter Try.func56, Try.ntmps56
    go_wp2_with fail
    go_loopw [3, 4] (fun q i wr => ∃ k : Nat, k ≤ 2 ^ G.length ∧ i = .int .i64 k ∧ ∃ (A : Option Addr) (n c' : Nat), q = .slice A n c' ∧ n = (Sw.qsK G k).length ∧ OwnI wr (w.heap.size + 1) wr.heap.size (.slice A n c') (Sw.toI (Sw.qsK G k)) ∧ Below w.heap.size w wr ∧ wr.cell? ⟨w.heap.size, 0, none⟩ = some (.slice (some ad) G.length c) ∧ w.heap.size < wr.heap.size) (fun _ i _ => (1024 - intOf i).toNat)
    case atStart => exact ⟨0, Nat.zero_le _, rfl, some ⟨w.heap.size + 1, 0, none⟩, 0, 0, rfl, rfl, HLit.out, HB2.out, HC2.out, HZ2.out⟩
    case round =>
      obtain ⟨k, hk, rfl, A, n, c', rfl, hnl, hO, hb, hc, hz⟩ := hrel
      have h512 := Sw.pow_le9 hn
      by_cases hlt : (k : Int) < 2 ^ G.length
      · have HN := Lib.hid (lt_pow_nat' hlt)
        have HA := Lib.hid (Sw.qsK_succ G k)
        have hnk := Sw.qsK_len G k
        have hk40 := lt40 hn HN.out
        have HK : Hid (k + 1 ≤ 2 ^ G.length) := by have := HN.out; show _ ≤ _; omega
        obtain ⟨L, hL⟩ : ∃ L, L = Sw.qsK G k := ⟨_, rfl⟩
        rw [← hL] at hO HA hnl hnk
        have hn512 : n ≤ 512 := by omega
        have HO := Lib.hid hO
        have HNL := Lib.hid hnl
        clear hk h512 hL hO hnl hnk
        go_wp2_with fail
        refine (specGV G hG ad c _ (hrg.at_ hb)).mono ?_
        rintro e w1 ⟨rfl, hb1⟩
        have HO1 := Lib.hid (HO.out.below hb1 (Nat.le_refl _)).up
        obtain ⟨hb, hc, hz⟩ := box_next hb hc hz hb1
        clear HO
        go_wp2_with fail
        refine (l2Press G hG ad c k hk40 _ (hrg.at_ hb)).mono ?_
        rintro e w2 ⟨rfl, hb2⟩
        have hO2 := (HO1.out.below hb2 (Nat.le_refl _)).up
        obtain ⟨hb, hc, hz⟩ := box_next hb hc hz hb2
        have hO3 := hO2.1
        rw [Sw.toI_len, ← HNL.out] at hO3
        have HO2 := Lib.hid hO2
        have HO3 := Lib.hid hO3
        clear hO2 hO3 HO1
        by_cases h0 : Sw.prs G k = 0
        · rw [if_pos h0] at HA
          rw [h0]
          clear h0
          go_wp2_with (at_builtin; go_loud (refine wpList_append_lies _ rfl _ _ 25 rfl (w.heap.size + 1) 3 i0 (.int .i64 0) 1 8 Try.underlying25 hi hz0 hz1 hz2 rfl (by decide) (.slice A n c') n (ints (Sw.toI L)) rfl (HO3.out.alloc _) ⟨w2.heap.size, 0, none⟩ 1 1 [.int .i64 (k : Int)] rfl rfl (World.news_of_block (heap_alloc_new w2 _)) (by intro u hu; simp at hu; subst hu; rfl) (by decide) (by unfold maxLen; omega) (by omega) (by simp; omega) _ rfl ?_); intro g cp w3 hown2 hgr2 hat2 hlt2)
          have hst := append_step hb hc hz HO3.out HNL.out hown2 hgr2
          obtain ⟨hO4, hb, hc, hz⟩ := hst
          have HO4 := Lib.hid hO4
          clear hO4 hown2 hgr2 hat2
          go_wp2_with fail
          go_roundw
          case rel => exact ⟨k + 1, HK.out, by go_num, some ⟨g, 0, none⟩, n + 1, cp, rfl, by rw [HA.out, List.length_append, HNL.out]; rfl, by rw [HA.out]; exact HO4.out, hb, hc, hz⟩
          case measure => simp [intOf]; omega
        · rw [if_neg h0] at HA
          have hne : (((Sw.prs G k : Nat) : Int) == 0) = false := by rw [beq_nat_zero]; exact decide_eq_false h0
          clear h0
          go_wp2_with fail
          go_roundw
          case rel => exact ⟨k + 1, HK.out, by go_num, A, n, c', rfl, by rw [HA.out, HNL.out], by rw [HA.out]; exact HO2.out, hb, hc, hz⟩
          case measure => simp [intOf]; omega
      · have HK := Lib.hid (eq_pow_nat' hk hlt)
        have HO := Lib.hid hO
        clear hk hO hnl
        go_wp2_with fail
        go_ret
        refine ⟨_, rfl, ?_, hb⟩
        have h1 := HO.out.lo_ (lo' := w.heap.size) (by omega)
        rw [HK.out] at h1
        rw [HF.out]; exact h1
end Go.Proofs.Ytakgcdiofpijmaa

