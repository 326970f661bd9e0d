/- Whole of the program and of the reference, each by its contract. No conditions. -/
import Derived.Test.YtakgcdiofpijmaaPart
import Derived.Deep.RegionWith
import Derived.Deep.DeepMust
namespace Go.Proofs.Ytakgcdiofpijmaa
open Go.RowKit
theorem pow_sub_nat {n : Nat} : (2 : Int) ^ n - 1 = ((2 ^ n - 1 : Nat) : Int) := by
  rw [pow_nat]; have := Nat.two_pow_pos n; omega
theorem implWhole (l : List Int) (A : Option Addr) (c : Nat) (hl : l.length ≤ 1099511627776) (w : World) (hr : RdI w w.heap.size A l) :
    Calls Try.prog 17 #[.agg #[.slice A l.length c]] w fun e w' => e = .returned (.bool (Sw.vWhole l)) ∧ Below w.heap.size w w' := by
  have hr1 := hr.at_ (below1 (.cells #[.slice A l.length c] 27))
  rcases Sw.gvB_cases l with hg | ⟨G, rfl, hG⟩
  · have HF := Lib.hid (Sw.vWhole_no hg)
    go_enter Try.func17, Try.ntmps17
    go_wp2_with fail
    refine wp_region_any (by kernel_rfl) ?_
    change wpAny _ _ _ _ _ _ _ (World.drew _)
    refine wpAny_ready (rs := [0]) (by kernel_rfl) (by simp) ?_
    refine AllReady.cons rfl (fun K hK => ?_) AllReady.nil
    go_simp
    refine hK _ _ ?_
    clear hK K
    refine wpAny_ready (rs := [1]) (by kernel_rfl) (by simp) ?_
    refine AllReady.cons rfl (fun K hK => ?_) AllReady.nil
    go_simp
    go_wp2_with (go_at_call 15; refine (implGraphValid_no l A c hl hg _ (by exact hr1)).mono ?_; rintro e w1 ⟨rfl, hb⟩; have hb' := box_after (undrew (by exact hb)))
    refine wpAny_ready (rs := [2]) (by kernel_rfl) (by simp) ?_
    refine AllReady.cons rfl (fun K hK => ?_) AllReady.nil
    go_simp
    refine hK _ _ ?_
    clear hK K
    refine wpAny_take (i := 3) (v := undef) rfl (by kernel_rfl) (by kernel_rfl) (by kernel_rfl) (fun _ _ _ h => h) (.inr ⟨by kernel_rfl, rfl⟩) ?_
    refine wpAny_take (i := 4) (v := undef) rfl (by kernel_rfl) (by kernel_rfl) (by kernel_rfl) (fun _ _ _ h => h) (.inr ⟨by kernel_rfl, rfl⟩) ?_
    refine wpAny_take (i := 5) (v := undef) rfl (by kernel_rfl) (by kernel_rfl) (by kernel_rfl) (fun _ _ _ h => h) (.inr ⟨by kernel_rfl, rfl⟩) ?_
    refine wpAny_take (i := 6) (v := undef) rfl (by kernel_rfl) (by kernel_rfl) (by kernel_rfl) (fun _ _ _ h => h) (.inr ⟨by kernel_rfl, rfl⟩) ?_
    refine wpAny_take (i := 7) (v := undef) rfl (by kernel_rfl) (by kernel_rfl) (by kernel_rfl) (fun _ _ _ h => h) (.inr ⟨by kernel_rfl, rfl⟩) ?_
    refine wpAny_take (i := 8) (v := undef) rfl (by kernel_rfl) (by kernel_rfl) (by kernel_rfl) (fun _ _ _ h => h) (.inr ⟨by kernel_rfl, rfl⟩) ?_
    refine wpAny_take (i := 9) (v := undef) rfl (by kernel_rfl) (by kernel_rfl) (by kernel_rfl) (fun _ _ _ h => h) (.inr ⟨by kernel_rfl, rfl⟩) ?_
    refine wpAny_take (i := 10) (v := undef) rfl (by kernel_rfl) (by kernel_rfl) (by kernel_rfl) (fun _ _ _ h => h) (.inr ⟨by kernel_rfl, rfl⟩) ?_
    refine wpAny_ready (rs := [11]) (by kernel_rfl) (by simp) ?_
    refine AllReady.cons rfl (fun K hK => ?_) AllReady.nil
    go_simp
    refine hK _ _ ?_
    clear hK K
    refine wpAny_ready (rs := [12]) (by kernel_rfl) (by simp) ?_
    refine AllReady.cons rfl (fun K hK => ?_) AllReady.nil
    go_simp
    refine hK _ _ ?_
    clear hK K
    refine wpAny_done (by kernel_rfl) ?_ _
    go_wp2_with fail
    go_ret
    exact ⟨ret_b HF.out.symm, hb'.1⟩
  · have HF := Lib.hid (Sw.vWhole_yes hG)
    obtain ⟨ad, rfl, hrg⟩ := RdG.of hG hr
    have hp := pow9 hG.le
    have hp1 := pow1 G.length
    have hn := hG.le
    have hpos := hG.pos
    rw [Sw.toI_len]
    clear hr1
    have hrg1 := hrg.at_ (below1 (.cells #[.slice (some ad) G.length c] 27))
    have hc0 := cell_new w (.slice (some ad) G.length c) 27
    have HS : Hid ((((Sw.pt G 0 : Nat) : Int) == 2 ^ G.length - 1) = decide (Sw.pt G 0 = 2 ^ G.length - 1)) := by
      show _ = _
      rw [pow_sub_nat]; exact beq_nat _ _
    go_enter Try.func17, Try.ntmps17
    go_wp2_with fail
    go_region_held3 (fun w' => w'.cell? ⟨w.heap.size, 0, none⟩ = some (.slice (some ad) G.length c)) (first | exact hc0 | exact hS2 | exact hS1) (first | (go_at_call 15; refine (implGV G hG ad c _ (by exact hrg1)).mono ?_; rintro e w1 ⟨rfl, hb⟩; obtain ⟨hb1, hS1, hz1⟩ := box_after (w := w) (w1 := w1) (v := .slice (some ad) G.length c) (t := 27) (undrew (by exact hb))) | (go_at_call 47; refine (partFrom G hG ad c 0 (by omega) _ (by exact hrg.at_ hb1)).mono ?_; rintro e w2 ⟨rfl, hb2⟩; obtain ⟨hb3, hS2, hz3⟩ := box_next hb1 hS1 hz1 (by exact hb2)))
    go_wp2_with fail
    go_ret
    exact ⟨ret_b (by rw [HF.out, IntWalk.i64_in ((2 : Int) ^ G.length) (by omega), IntWalk.i64_in ((2 : Int) ^ G.length - 1) (by omega)]; exact HS.out), hb3⟩
end Go.Proofs.Ytakgcdiofpijmaa

