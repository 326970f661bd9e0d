/- SetValid of the program and of the reference, each by its contract. No conditions. -/
import Derived.Test.YtakgcdiofpijmaaGv
namespace Go.Proofs.Ytakgcdiofpijmaa
open Go.RowKit
theorem implSetValid (l : List Int) (A : Option Addr) (c : Nat) (s : Int) (hl : l.length ≤ 1099511627776) (w : World) (hr : RdI w w.heap.size A l) :
    Calls Try.prog 31 #[.agg #[.slice A l.length c], .int .i64 s] w fun e w' => e = .returned (.bool (Sw.svB l s)) ∧ Below w.heap.size w w' := by
  have hr1 := hr.at_ (below1 (.cells #[.slice A l.length c] 27))
  by_cases hv : Sw.gvB l = false
  · have HF := Lib.hid (Sw.svB_no (s := s) hv)
    go_enter Try.func31, Try.ntmps31
    go_wp2_with fail
    refine (implGraphValid l A c hl _ hr1).mono ?_
    rintro e w1 ⟨rfl, hb⟩
    obtain ⟨hb, hc, hz⟩ := box_after hb
    go_wp2_with fail
    go_ret
    exact ⟨ret_b HF.out.symm, hb⟩
  · rw [Bool.not_eq_false] at hv
    have hn := (Sw.gvB_true.1 hv).len
    have hp := pow9 hn.2
    have hp1 := pow1 l.length
    have h9 := hn.2
    clear hn
    by_cases h0 : 0 ≤ s
    · by_cases h1 : s < 2 ^ l.length
      · have HF := Lib.hid (Sw.svB_in hv h0 h1)
        go_enter Try.func31, Try.ntmps31
        go_wp2_with fail
        refine (implGraphValid l A c hl _ hr1).mono ?_
        rintro e w1 ⟨rfl, hb⟩
        obtain ⟨hb, hc, hz⟩ := box_after hb
        go_wp2_with fail
        go_ret
        exact ⟨ret_b HF.out.symm, hb⟩
      · have HF := Lib.hid (Sw.svB_out (l := l) (s := s) (.inr (by omega)))
        go_enter Try.func31, Try.ntmps31
        go_wp2_with fail
        refine (implGraphValid l A c hl _ hr1).mono ?_
        rintro e w1 ⟨rfl, hb⟩
        obtain ⟨hb, hc, hz⟩ := box_after hb
        go_wp2_with fail
        go_ret
        exact ⟨ret_b (by rw [HF.out]; exact decide_eq_false (by omega)), hb⟩
    · have HF := Lib.hid (Sw.svB_out (l := l) (s := s) (.inl (by omega)))
      go_enter Try.func31, Try.ntmps31
      go_wp2_with fail
      refine (implGraphValid l A c hl _ hr1).mono ?_
      rintro e w1 ⟨rfl, hb⟩
      obtain ⟨hb, hc, hz⟩ := box_after hb
      go_wp2_with fail
      go_ret
      exact ⟨ret_b HF.out.symm, hb⟩
theorem specSetValid (l : List Int) (A : Option Addr) (c : Nat) (s : Int) (hl : l.length ≤ 1099511627776) (w : World) (hr : RdI w w.heap.size A l) :
    Calls Try.prog 38 #[.agg #[.slice A l.length c], .int .i64 s] w fun e w' => e = .returned (.bool (Sw.svB l s)) ∧ Below w.heap.size w w' := by
  have hr1 := hr.at_ (below1 (.cells #[.slice A l.length c] 27))
  by_cases hv : Sw.gvB l = false
  · have HF := Lib.hid (Sw.svB_no (s := s) hv)
    go_enter Try.func38, Try.ntmps38
    go_wp2_with fail
    refine (specGraphValid l A c hl _ hr1).mono ?_
    rintro e w1 ⟨rfl, hb⟩
    obtain ⟨hb, hc, hz⟩ := box_after hb
    go_wp2_with fail
    go_ret
    exact ⟨ret_b HF.out.symm, hb⟩
  · rw [Bool.not_eq_false] at hv
    have hn := (Sw.gvB_true.1 hv).len
    have hp := pow9 hn.2
    have hp1 := pow1 l.length
    have h9 := hn.2
    clear hn
    by_cases h : 0 ≤ s ∧ s < 2 ^ l.length
    · have HF := Lib.hid (Sw.svB_in hv h.1 h.2)
      obtain ⟨h0, h1⟩ := h
      go_enter Try.func38, Try.ntmps38
      go_wp2_with fail
      refine (specGraphValid l A c hl _ hr1).mono ?_
      rintro e w1 ⟨rfl, hb⟩
      obtain ⟨hb, hc, hz⟩ := box_after hb
      go_wp2_with fail
      refine (l1In_yes _ _ _ _ (by omega) (by omega)).mono ?_
      rintro e w2 ⟨rfl, rfl⟩
      go_wp2_with fail
      go_ret
      exact ⟨ret_b HF.out.symm, hb⟩
    · have HF := Lib.hid (Sw.svB_out (l := l) (s := s) (by omega))
      have h' : s < 0 ∨ 2 ^ l.length - 1 < s := by omega
      have H' := Lib.hid h'
      clear h h'
      go_enter Try.func38, Try.ntmps38
      go_wp2_with fail
      refine (specGraphValid l A c hl _ hr1).mono ?_
      rintro e w1 ⟨rfl, hb⟩
      obtain ⟨hb, hc, hz⟩ := box_after hb
      go_wp2_with fail
      refine (l1In_no _ _ _ _ H'.out).mono ?_
      rintro e w2 ⟨rfl, rfl⟩
      go_wp2_with fail
      go_ret
      exact ⟨ret_b HF.out.symm, hb⟩
theorem implSV (G : List Nat) (hG : Sw.GVN G) (S : Nat) (hS : S < 2 ^ G.length) (ad : Addr) (c : Nat) (w : World) (hr : RdG w w.heap.size ad G) :
    Calls Try.prog 31 #[.agg #[.slice (some ad) G.length c], .int .i64 S] w fun e w' => e = .returned (.bool true) ∧ Below w.heap.size w w' := by
  have h := implSetValid (Sw.toI G) (some ad) c S (by rw [Sw.toI_len]; have := hG.le; omega) w hr.toI
  rw [Sw.toI_len, Sw.svB_yes hG hS] at h; exact h
theorem implSV_no (l : List Int) (A : Option Addr) (c : Nat) (s : Int) (hl : l.length ≤ 1099511627776) (hv : Sw.svB l s = false) (w : World) (hr : RdI w w.heap.size A l) :
    Calls Try.prog 31 #[.agg #[.slice A l.length c], .int .i64 s] w fun e w' => e = .returned (.bool false) ∧ Below w.heap.size w w' := by
  rw [← hv]; exact implSetValid l A c s hl w hr
theorem specSV (G : List Nat) (hG : Sw.GVN G) (S : Nat) (hS : S < 2 ^ G.length) (ad : Addr) (c : Nat) (w : World) (hr : RdG w w.heap.size ad G) :
    Calls Try.prog 38 #[.agg #[.slice (some ad) G.length c], .int .i64 S] w fun e w' => e = .returned (.bool true) ∧ Below w.heap.size w w' := by
  have h := specSetValid (Sw.toI G) (some ad) c S (by rw [Sw.toI_len]; have := hG.le; omega) w hr.toI
  rw [Sw.toI_len, Sw.svB_yes hG hS] at h; exact h
theorem specSV_no (l : List Int) (A : Option Addr) (c : Nat) (s : Int) (hl : l.length ≤ 1099511627776) (hv : Sw.svB l s = false) (w : World) (hr : RdI w w.heap.size A l) :
    Calls Try.prog 38 #[.agg #[.slice A l.length c], .int .i64 s] w fun e w' => e = .returned (.bool false) ∧ Below w.heap.size w w' := by
  rw [← hv]; exact specSetValid l A c s hl w hr
end Go.Proofs.Ytakgcdiofpijmaa

