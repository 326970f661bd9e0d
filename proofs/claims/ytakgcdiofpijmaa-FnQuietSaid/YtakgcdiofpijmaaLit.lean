/- l20Lit: a drawn graph and lights, weak contract. Conditions: as l20Set. -/
import Derived.Test.YtakgcdiofpijmaaDrS
import Derived.Test.YtakgcdiofpijmaaPress
namespace Go.Proofs.Ytakgcdiofpijmaa
open Go.RowKit
theorem grown_of_below {W W' : World} (h : Below W.heap.size W W') : W.grownBy W' none := ⟨h.os, h.tape, h.output, h.size, fun k hk _ => h.block k hk⟩
theorem Ds.below {w W W' : World} {h m c K b n1 c1 : Nat} {A A1 : Option Addr} {l : List Int} (g : Ds w W h A m c K b A1 n1 c1 l) (hb : Below W.heap.size W W') : Ds w W' h A m c K b A1 n1 c1 l := by
  obtain ⟨g1, g2, g3, g4, g5⟩ := g
  have hg := grown_of_below hb
  exact ⟨g1.grown hg (fun q e => by cases e), hg.cell g2 (by intro e; cases e), g3, g4, g5.grown hg (fun q e => by cases e)⟩
set_option maxRecDepth 100000 in
set_option maxHeartbeats 4000000 in
theorem l20Lit (h m c p : Nat) (A : Option Addr) (n : Nat) (hp : p ≤ 1000) (hn : n ≤ 1000) (w : World) (hR : Rdr w h A m c p) :
    Calls Try.prog 52 #[.pointer (some ⟨h, 0, none⟩), .int .i64 n] w (SetPost w h A m c (p + 206)) := by
  have hh := hR.2.2.2.2.2
  have ha := World.grownBy_alloc w (.cells #[.slice none 0 0] 27) none
  have hR1 := hR.grown ha (fun q e => by cases e)
  have HR := Lib.hid hR
  clear hR ha
  go_enter Try.func52, Try.ntmps52
  go_wp2_with fail
  refine (l20Set h m c p A n hp hn _ hR1).mono ?_
  rintro e W1 ⟨A1, c1, p1, l, s, rfl, h10, hp1, hR2, hg, hr⟩
  have hz : w.heap.size < (w.alloc (.cells #[.slice none 0 0] 27)).heap.size := by simp
  have hne : (some h : Option Nat) ≠ some w.heap.size := by intro e; injection e with e; omega
  have hcb := hg.cell (cell_new w (.slice none 0 0) 27) (fun e => hne e.symm)
  have hfb := (grown_free (a := ⟨w.heap.size, 0, none⟩) hg hz hne).trans (free_new w (.slice none 0 0) 27)
  have hgw : w.grownBy W1 (some h) := (World.grownBy_alloc w _ (some h)).trans hg
  simp only [World.size_alloc] at hr
  have HD0 := Lib.hid (Ds.start (c1 := c1) HR.out 27 hcb hfb hgw hp1 hR2 rfl hr)
  obtain ⟨⟨_, _, hcb2, hfb2, _⟩, hS0, hwb, _, hJ⟩ := HD0.out
  have hJ := hJ.rd
  clear hR1 hR2 hg hr hcb hfb hgw
  have HL2 : Hid (Sw.gvB l = true → ∀ x : Int, 0 ≤ x → x < 2 ^ l.length → ∀ W, RdI W W.heap.size A1 l → Calls Try.prog 55 #[.agg #[.slice A1 l.length c1], .int .i64 x] W fun e w' => (∃ x : Int, e = .returned (.int .i64 x)) ∧ Below W.heap.size W w') := by
    intro hv x hx0 hx W hW
    obtain ⟨S, rfl⟩ := Int.eq_ofNat_of_zero_le hx0
    have hS : S < 2 ^ l.length := by rw [pow_nat] at hx; exact_mod_cast hx
    rcases Sw.gvB_cases l with h0 | ⟨G, rfl, hG⟩
    · rw [hv] at h0; cases h0
    obtain ⟨ad, rfl, hrg⟩ := RdG.of hG hW
    have hS9 : S < 1099511627776 := by rw [Sw.toI_len] at hS; exact lt40 hG.le hS
    rw [Sw.toI_len]
    exact (l2Press G hG ad c1 S hS9 W hrg).mono fun e w' q => ⟨⟨_, q.1⟩, q.2⟩
  cases hv : Sw.gvB l
  · go_wp2_with fail
    refine (specGraphValid_no l A1 c1 (by omega) hv _ hJ).mono ?_
    rintro e W2 ⟨rfl, hb⟩
    have HD1 := Lib.hid (HD0.out.below hb)
    obtain ⟨⟨_, _, hcb2, hfb2, _⟩, hS0, hwb, _, _⟩ := HD1.out
    have HF := Lib.hid HD1.out.fin
    clear hb hJ
    go_wp2_with fail
    obtain ⟨⟨pe, hpe, hRe⟩, hge, hre, hce, _⟩ := HF.out
    refine bodyPost_ret (v := .tuple #[.agg #[.slice A1 l.length c1], .int .i64 _]) (by have q := hce; simp [results, Try.results52, go_sem, q]; try rfl) rfl ⟨A1, c1, pe, l, _, rfl, h10, by omega, hRe, hge, hre⟩
  · have hL := HL2.out hv
    go_wp2_with fail
    refine (specGraphValid_yes l A1 c1 (by omega) hv _ hJ).mono ?_
    rintro e W2 ⟨rfl, hb⟩
    have HD1 := Lib.hid (HD0.out.below hb)
    obtain ⟨⟨_, ⟨p0, hp0, hR0⟩, _, _, _⟩, _, _, _, _⟩ := HD1.out
    clear hb hJ hcb2 hfb2 hS0
    go_wp2_with fail
    refine (pick h m c p0 A 3 (by omega) (by decide) _ hR0).mono ?_
    rintro e W3 ⟨v0, rfl, v0_0, v0_1, hR1, hg1⟩
    have HD2 := Lib.hid (HD1.out.pick hR1 hg1 (by omega))
    clear hR0 hg1
    obtain ⟨⟨_, _, hcb2, hfb2, _⟩, hS0, hwb, hln, hJ⟩ := HD2.out
    have hJ := hJ.rd
    by_cases hz0 : v0 = 0
    · subst hz0
      have hpp : (2 : Int) ^ l.length ≤ 1024 := by rw [pow_nat]; have := Nat.pow_le_pow_right (n := 2) (i := l.length) (j := 10) (by decide) h10; omega
      have hpp1 := pow1 l.length
      have hMw : IntKind.i64.wrap ((2 : Int) ^ l.length) = 2 ^ l.length := IntWalk.i64_in _ (by omega)
      have hM0 : ¬ (2 : Int) ^ l.length = 0 := by omega
      have HM : Hid (∀ v : Int, 0 ≤ v → 0 ≤ v.tmod (2 ^ l.length) ∧ v.tmod (2 ^ l.length) < 2 ^ l.length) := fun v hv => by
        rw [Int.tmod_eq_emod_of_nonneg hv]; exact ⟨Int.emod_nonneg _ hM0, Int.emod_lt_of_pos _ (by omega)⟩
      clear hJ hln
      go_wp2_with fail
      go_region_held3 (fun w' => w'.cell? ⟨W1.heap.size, 0, none⟩ = some (.slice A1 l.length c1)) (first | exact hS0 | exact hS1 | exact hS2 | exact hS3) (first | (have hq := hS1; clear hq; go_at_call 55; refine (hL _ (HM.out _ v2_0).1 (HM.out _ v2_0).2 _ (by exact HD3.out.2.2.2.2.rd)).mono ?_; rintro e W5 ⟨⟨x5, rfl⟩, hb5⟩; have HD4 := Lib.hid (HD3.out.below (by exact hb5)); have hS2 := HD4.out.2.1; have hcb6 := HD4.out.1.2.2.1; have hfb6 := HD4.out.1.2.2.2.1; have HF := Lib.hid HD4.out.fin; have hS3 := HF.out.2.2.2.2) | (go_at_call 42; refine (pick h m c (p0 + 1) A 256 (by omega) (by decide) _ (by exact hR1)).mono ?_; rintro e W4 ⟨v2, rfl, v2_0, v2_1, hR2, hg2⟩; have HD3 := Lib.hid (HD2.out.draw.pick hR2 (by exact hg2) (by omega)); have hS1 := HD3.out.2.1))
      go_wp2_with fail
      obtain ⟨⟨pe, hpe, hRe⟩, hge, hre, hce, _⟩ := HF.out
      refine bodyPost_ret (v := .tuple #[.agg #[.slice A1 l.length c1], .int .i64 _]) (by have q := hce; simp [results, Try.results52, go_sem, q]; try rfl) rfl ⟨A1, c1, pe, l, _, rfl, h10, by omega, hRe, hge, hre⟩
    · have HF := Lib.hid HD2.out.fin
      clear hJ
      go_wp2_with fail
      obtain ⟨⟨pe, hpe, hRe⟩, hge, hre, hce, _⟩ := HF.out
      refine bodyPost_ret (v := .tuple #[.agg #[.slice A1 l.length c1], .int .i64 _]) (by have q := hce; simp [results, Try.results52, go_sem, q]; try rfl) rfl ⟨A1, c1, pe, l, _, rfl, h10, by omega, hRe, hge, hre⟩
end Go.Proofs.Ytakgcdiofpijmaa

