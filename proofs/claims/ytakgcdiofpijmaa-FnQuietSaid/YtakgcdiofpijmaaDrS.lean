/- The draws of a graph and a set, weak contracts: a list of at most ten ints, and any int. Conditions: at most 2^40 bytes. -/
import Derived.Test.YtakgcdiofpijmaaDrG
import Derived.Deep.RegionHeld3
import Derived.Deep.DeepCutAuto
namespace Go.Proofs.Ytakgcdiofpijmaa
open Go.RowKit
/-- the reader, the answer's cell, and the drawn graph in its box at b -/
def Ds (w W : World) (h : Nat) (A : Option Addr) (m c K b : Nat) (A1 : Option Addr) (n1 c1 : Nat) (l : List Int) : Prop :=
  Gs0 w W h A m c K ∧ W.cell? ⟨b, 0, none⟩ = some (.slice A1 n1 c1) ∧ w.heap.size < b ∧ l.length = n1 ∧ RdJ W (w.heap.size + 1) A1 l
section
variable {w W W' : World} {h m c K b n1 c1 p : Nat} {A A1 : Option Addr} {l : List Int}
theorem Ds.pick (g : Ds w W h A m c K b A1 n1 c1 l) (hR : Rdr W' h A m c p) (hg : W.grownBy W' (some h)) (hp : p ≤ K + 1) : Ds w W' h A m c (K + 1) b A1 n1 c1 l := by
  obtain ⟨g1, g2, g3, g4, g5⟩ := g
  have hh := g1.2.2.2.2
  exact ⟨g1.pick hR hg hp, hg.cell g2 (by intro e; injection e with e; simp at e; omega), g3, g4, g5.grown hg (fun q e => by injection e with e; omega)⟩
theorem Ds.draw (g : Ds w W h A m c K b A1 n1 c1 l) : Ds w W.drew h A m c K b A1 n1 c1 l := by
  obtain ⟨⟨g1, g1', g1''⟩, g2⟩ := g
  exact ⟨⟨grown_drew g1, g1', g1''⟩, g2⟩
theorem Ds.start (hR : Rdr w h A m c p) (t : TypeId) {K' : Nat} (h1 : W.cell? ⟨w.heap.size, 0, none⟩ = some (.slice none 0 0)) (h2 : W.frozen? ⟨w.heap.size, 0, none⟩ = false) (hg : w.grownBy W (some h)) {p' : Nat} (hp' : p' ≤ K') (hR' : Rdr W h A m c p') (hl : l.length = n1) (hr : RdJ W (w.heap.size + 1) A1 l) :
    Ds w (W.alloc (.cells #[.slice A1 n1 c1] t)) h A m c K' W.heap.size A1 n1 c1 l := by
  have h0 : Gs0 w W h A m c K' := ⟨hg, ⟨p', hp', hR'⟩, h1, h2, hR.2.2.2.2.2⟩
  have ga := World.grownBy_alloc W (.cells #[.slice A1 n1 c1] t) none
  exact ⟨h0.grown ga (fun q e => by cases e), cell_new _ _ _, h0.lt, hl, hr.grown ga (fun q e => by cases e)⟩
/-- the answer laid into its cell -/
theorem Ds.fin (g : Ds w W h A m c K b A1 n1 c1 l) :
    (∃ p', p' ≤ K ∧ Rdr (W.setCell ⟨w.heap.size, 0, none⟩ (.slice A1 n1 c1)) h A m c p') ∧ w.grownBy (W.setCell ⟨w.heap.size, 0, none⟩ (.slice A1 n1 c1)) (some h) ∧ RdJ (W.setCell ⟨w.heap.size, 0, none⟩ (.slice A1 n1 c1)) w.heap.size A1 l ∧
      (W.setCell ⟨w.heap.size, 0, none⟩ (.slice A1 n1 c1)).cell? ⟨w.heap.size, 0, none⟩ = some (.slice A1 n1 c1) ∧ (W.setCell ⟨w.heap.size, 0, none⟩ (.slice A1 n1 c1)).cell? ⟨b, 0, none⟩ = some (.slice A1 n1 c1) := by
  obtain ⟨⟨g1, ⟨p, hp, hR⟩, g3, g4, g5⟩, k2, k3, k4, k5⟩ := g
  have hg2 : W.grownBy (W.setCell ⟨w.heap.size, 0, none⟩ (.slice A1 n1 c1)) (some w.heap.size) := ⟨rfl, rfl, rfl, by simp [World.setCell], fun j _ hj => Below.heap_setCell _ _ _ _ (fun e => hj (by rw [e]))⟩
  refine ⟨⟨p, hp, hR.grown hg2 (fun q e => by injection e with e; omega)⟩, grow_trans g1 hg2 (fun q e => by injection e with e; omega), ?_, World.cell?_setCell_same' _ _ _ (by rw [g3]; rfl), hg2.cell k2 (by intro e; injection e with e; simp at e; omega)⟩
  have := k5.grown hg2 (fun q e => by injection e with e; omega)
  exact fun k hk => by obtain ⟨ad, e, h1, r⟩ := this k hk; exact ⟨ad, e, by omega, r⟩
end
def SetPost (w : World) (h : Nat) (A : Option Addr) (m c K : Nat) (e : Ending) (w' : World) : Prop :=
  ∃ (A1 : Option Addr) (c1 p' : Nat) (l : List Int) (s : Int), e = .returned (.tuple #[.agg #[.slice A1 l.length c1], .int .i64 s]) ∧ l.length ≤ 10 ∧ p' ≤ K ∧ Rdr w' h A m c p' ∧ w.grownBy w' (some h) ∧ RdJ w' w.heap.size A1 l
set_option maxRecDepth 100000 in
set_option maxHeartbeats 4000000 in
theorem l20Set (h m c p : Nat) (A : Option Addr) (n : Nat) (hp : p ≤ 1000) (hn : n ≤ 1000) (w : World) (hR : Rdr w h A m c p) :
    Calls Try.prog 54 #[.pointer (some ⟨h, 0, none⟩), .int .i64 n] w (SetPost w h A m c (p + 204)) := by
  have hh := hR.2.2.2.2.2
  have ha := World.grownBy_alloc w (.cells #[.slice none 0 0] 27) none
  have hR1 := hR.grown ha (fun q e => by cases e)
  have HR := Lib.hid hR
  clear hR ha
  go_enter Try.func54, Try.ntmps54
  go_wp2_with fail
  refine (l20Graph h m c p A n hp hn _ hR1).mono ?_
  rintro e W1 ⟨A1, n1, c1, p1, l, rfl, h10, hp1, hR2, hg, hl, hr⟩
  have hz : w.heap.size < (w.alloc (.cells #[.slice none 0 0] 27)).heap.size := by simp
  have hne : (some h : Option Nat) ≠ some w.heap.size := by intro e; injection e with e; omega
  have hcb := hg.cell (cell_new w (.slice none 0 0) 27) (fun e => hne e.symm)
  have hfb := (grown_free (a := ⟨w.heap.size, 0, none⟩) hg hz hne).trans (free_new w (.slice none 0 0) 27)
  have hgw : w.grownBy W1 (some h) := (World.grownBy_alloc w _ (some h)).trans hg
  simp only [World.size_alloc] at hr
  have HD0 := Lib.hid (Ds.start (c1 := c1) HR.out 27 hcb hfb hgw hp1 hR2 hl hr)
  obtain ⟨b, hbe⟩ : ∃ b, b = W1.heap.size := ⟨_, rfl⟩
  obtain ⟨⟨_, ⟨p0, hp0, hR0⟩, hcb2, hfb2, _⟩, hS0, hwb, _, _⟩ := HD0.out
  clear hR1 hR2 hg hl hr hcb hfb hgw hbe b
  by_cases h9 : (n1 : Int) ≤ 9
  · have hpp : (2 : Int) ^ n1 ≤ 512 := pow9 (by omega)
    have hpp1 := pow1 n1
    have hMw : IntKind.i64.wrap ((2 : Int) ^ n1) = 2 ^ n1 := IntWalk.i64_in _ (by omega)
    have hM0 : ¬ (2 : Int) ^ n1 = 0 := by omega
    go_wp2_with fail
    go_region_held3 (fun w' => w'.cell? ⟨W1.heap.size, 0, none⟩ = some (.slice A1 n1 c1)) (first | exact hS0 | exact hS1 | exact hS2 | exact hS3 | exact hS4 | exact hS5) (first | (have hq := hR3; clear hq; go_at_call 42; refine (pick h m c (p0 + 1 + 1 + 1) A 40 (by omega) (by decide) _ (by exact hR3)).mono ?_; rintro e W6 ⟨v4, rfl, v4_0, v4_1, hR4, hg4⟩; have HD4 := Lib.hid (HD3.out.pick hR4 (by exact hg4) (by omega)); have hS4 := HD4.out.2.1; have hcb6 := HD4.out.1.2.2.1; have hfb6 := HD4.out.1.2.2.2.1; have HF := Lib.hid HD4.out.fin; have hS5 := HF.out.2.2.2.2) | (have hq := hR2; clear hq; go_at_call 42; refine (pick h m c (p0 + 1 + 1) A 40 (by omega) (by decide) _ (by exact hR2)).mono ?_; rintro e W5 ⟨v3, rfl, v3_0, v3_1, hR3, hg3⟩; have HD3 := Lib.hid (HD2.out.pick hR3 (by exact hg3) (by omega)); have hS3 := HD3.out.2.1) | (have hq := hR1; clear hq; go_at_call 42; refine (pick h m c (p0 + 1) A 2 (by omega) (by decide) _ (by exact hR1)).mono ?_; rintro e W4 ⟨v2, rfl, v2_0, v2_1, hR2, hg2⟩; have HD2 := Lib.hid (HD1.out.pick hR2 (by exact hg2) (by omega)); have hS2 := HD2.out.2.1) | (go_at_call 42; refine (pick h m c p0 A 256 (by omega) (by decide) _ (by exact hR0)).mono ?_; rintro e W3 ⟨v1, rfl, v1_0, v1_1, hR1, hg1⟩; have HD1 := Lib.hid (HD0.out.draw.pick hR1 (by exact hg1) (by omega)); have hS1 := HD1.out.2.1))
    go_wp2_with fail
    obtain ⟨⟨pe, hpe, hRe⟩, hge, hre, hce, _⟩ := HF.out
    have hln := HD0.out.2.2.2.1
    subst hln
    refine bodyPost_ret (v := .tuple #[.agg #[.slice A1 l.length c1], .int .i64 _]) (by have q := hce; simp [results, Try.results54, go_sem, q]; rfl) rfl ⟨A1, c1, pe, l, _, rfl, h10, by omega, hRe, hge, hre⟩
  · have hMw : IntKind.i64.wrap 512 = 512 := IntWalk.i64_in _ (by omega)
    go_wp2_with fail
    go_region_held3 (fun w' => w'.cell? ⟨W1.heap.size, 0, none⟩ = some (.slice A1 n1 c1)) (first | exact hS0 | exact hS1 | exact hS2 | exact hS3 | exact hS4 | exact hS5) (first | (have hq := hR3; clear hq; go_at_call 42; refine (pick h m c (p0 + 1 + 1 + 1) A 40 (by omega) (by decide) _ (by exact hR3)).mono ?_; rintro e W6 ⟨v4, rfl, v4_0, v4_1, hR4, hg4⟩; have HD4 := Lib.hid (HD3.out.pick hR4 (by exact hg4) (by omega)); have hS4 := HD4.out.2.1; have hcb6 := HD4.out.1.2.2.1; have hfb6 := HD4.out.1.2.2.2.1; have HF := Lib.hid HD4.out.fin; have hS5 := HF.out.2.2.2.2) | (have hq := hR2; clear hq; go_at_call 42; refine (pick h m c (p0 + 1 + 1) A 40 (by omega) (by decide) _ (by exact hR2)).mono ?_; rintro e W5 ⟨v3, rfl, v3_0, v3_1, hR3, hg3⟩; have HD3 := Lib.hid (HD2.out.pick hR3 (by exact hg3) (by omega)); have hS3 := HD3.out.2.1) | (have hq := hR1; clear hq; go_at_call 42; refine (pick h m c (p0 + 1) A 2 (by omega) (by decide) _ (by exact hR1)).mono ?_; rintro e W4 ⟨v2, rfl, v2_0, v2_1, hR2, hg2⟩; have HD2 := Lib.hid (HD1.out.pick hR2 (by exact hg2) (by omega)); have hS2 := HD2.out.2.1) | (go_at_call 42; refine (pick h m c p0 A 256 (by omega) (by decide) _ (by exact hR0)).mono ?_; rintro e W3 ⟨v1, rfl, v1_0, v1_1, hR1, hg1⟩; have HD1 := Lib.hid (HD0.out.draw.pick hR1 (by exact hg1) (by omega)); have hS1 := HD1.out.2.1))
    go_wp2_with fail
    obtain ⟨⟨pe, hpe, hRe⟩, hge, hre, hce, _⟩ := HF.out
    have hln := HD0.out.2.2.2.1
    subst hln
    refine bodyPost_ret (v := .tuple #[.agg #[.slice A1 l.length c1], .int .i64 _]) (by have q := hce; simp [results, Try.results54, go_sem, q]; rfl) rfl ⟨A1, c1, pe, l, _, rfl, h10, by omega, hRe, hge, hre⟩
end Go.Proofs.Ytakgcdiofpijmaa

