/- LineSet of the reference by its contract. No conditions. -/
import Derived.Test.YtmghnfadgnolpaaDoorLine
namespace Go.Proofs.YtmghnfadgnolpaaDoor
open Go.RowKit
theorem copy_keeps {w w1 w2 : World} {t : TypeId} (hg : (w1.alloc (.cells #[] t)).grownBy w2 (some w1.heap.size)) (hb : Below w.heap.size w w1) : Below w.heap.size w w2 ∧ w1.heap.size < w2.heap.size ∧ ∀ (b : Nat) (v : Value), b < w1.heap.size → w1.cell? ⟨b, 0, none⟩ = some v → w2.cell? ⟨b, 0, none⟩ = some v := by
  have h : Below w1.heap.size w1 w2 := (below1 _).trans (below_of_grown hg (by simp) (fun g h => by injection h with h; omega))
  have hs := hg.size
  simp only [World.size_alloc] at hs
  exact ⟨hb.trans (h.mono hb.size), by omega, fun b v hlt hc => (h.cell (p := ⟨b, 0, none⟩) hlt).trans hc⟩
/-- the reference's row, its box, its result's cell, and what was there before -/
def SL (w wr : World) (g cap hb n : Nat) (f : Nat → Nat) : Prop := OwnF wr (w.heap.size + 2) hb (.slice (some ⟨g, 0, none⟩) n cap) n f ∧ Below w.heap.size w wr ∧ wr.cell? ⟨w.heap.size + 1, 0, none⟩ = some (.slice none 0 0) ∧ wr.frozen? ⟨w.heap.size + 1, 0, none⟩ = false ∧ wr.cell? ⟨hb, 0, none⟩ = some (.slice (some ⟨g, 0, none⟩) n cap) ∧ w.heap.size + 2 ≤ g ∧ g < hb
theorem SL.cells {w wr : World} {g cap hb n : Nat} {f : Nat → Nat} (h : SL w wr g cap hb n f) (k : Nat) (hk : k < n) : wr.cell? ⟨g, k, none⟩ = some (.int .i64 (f k : Nat)) ∧ wr.frozen? ⟨g, k, none⟩ = false := by
  obtain ⟨g', c', e, _, _, hc⟩ := h.1.form (by omega)
  injection e with e1 _ _
  injection e1 with e1
  injection e1 with e1 _ _
  subst e1
  exact hc k hk
theorem SL.put {w wr : World} {g cap hb n : Nat} {f : Nat → Nat} (h : SL w wr g cap hb n f) (k x : Nat) (y : Int) (hy : y = (x : Nat)) : SL w (wr.setCell ⟨g, k, none⟩ (.int .i64 y)).drew g cap hb n (fun j => if j = k then x else f j) := by
  subst hy
  obtain ⟨hO, hbl, hc, hf, hx, hz1, hz2⟩ := h
  obtain ⟨h1, h2⟩ := hO.set k x
  have h3 := grown_drew h2
  have hlt : w.heap.size + 1 < wr.heap.size := World.block_lt_of_cell? wr _ hc
  refine ⟨h1, hbl.trans (below_of_grown h3 hbl.size (fun g h => by injection h with h; omega)), h3.cell hc (by intro e; injection e with e; simp at e; omega), ?_, h3.cell hx (by intro e; injection e with e; simp at e; omega), hz1, hz2⟩
  rw [World.frozen?_of_block (h3.block (w.heap.size + 1) hlt (by intro e; injection e with e; omega))]; exact hf
theorem SL.done {w wr : World} {g cap hb n : Nat} {f f' : Nat → Nat} (h : SL w wr g cap hb n f) (e : f = f') (u : Value) :
    OwnI (wr.setCell ⟨w.heap.size + 1, 0, none⟩ u) w.heap.size (wr.setCell ⟨w.heap.size + 1, 0, none⟩ u).heap.size (.slice (some ⟨g, 0, none⟩) n cap) (Sw.toI (Sw.tab n f')) ∧ Below w.heap.size w (wr.setCell ⟨w.heap.size + 1, 0, none⟩ u) ∧ (wr.setCell ⟨w.heap.size + 1, 0, none⟩ u).cell? ⟨w.heap.size + 1, 0, none⟩ = some u := by
  subst e
  obtain ⟨hO, hb, hc, _⟩ := h
  exact ⟨((OwnI.store_far' hO (by omega) u).up.lo_ (by omega)), hb.setCell (p := ⟨w.heap.size + 1, 0, none⟩) (by simp) u, World.cell?_setCell_same' wr ⟨w.heap.size + 1, 0, none⟩ u (by rw [hc]; rfl)⟩
theorem SL.start {w w1 w2 : World} {G : List Nat} {g cap : Nat} {t t2 : TypeId} (hz : w.heap.size + 1 < w1.heap.size) (hb1 : Below w.heap.size w w1) (hc1 : w1.cell? ⟨w.heap.size + 1, 0, none⟩ = some (.slice none 0 0)) (hf1 : w1.frozen? ⟨w.heap.size + 1, 0, none⟩ = false)
    (hown : w2.ownsRow w1.heap.size 3 1 (.slice (some ⟨g, 0, none⟩) G.length cap) G.length (ints (Sw.toI G))) (hgrow : (w1.alloc (.cells #[] t)).grownBy w2 (some w1.heap.size)) :
    SL w (w2.alloc (.cells #[.slice (some ⟨g, 0, none⟩) G.length cap] t2)) g cap w2.heap.size G.length (Sw.nb G) := by
  have e : Sw.toI G = Sw.toI (Sw.tab G.length (Sw.nb G)) := by
    apply Sw.gat_ext (by rw [toI_tab_len, Sw.toI_len])
    intro j hj
    rw [Sw.toI_len] at hj
    rw [gat_toI_tab _ hj, Sw.gat_toI]
  have hgs := hown.lt g rfl
  have hb12 : Below w1.heap.size w1 w2 := (below1 _).trans (below_of_grown hgrow (by simp) (fun g h => by injection h with h; omega))
  have hb2 := hb1.trans (hb12.mono (by omega))
  have hO : OwnF w2 (w.heap.size + 2) w2.heap.size (.slice (some ⟨g, 0, none⟩) G.length cap) G.length (Sw.nb G) := by
    rw [e] at hown
    have h : OwnI w2 w1.heap.size w2.heap.size (.slice (some ⟨g, 0, none⟩) G.length cap) (Sw.toI (Sw.tab G.length (Sw.nb G))) := by
      refine OwnI.own ?_
      rw [toI_tab_len]; exact hown
    exact h.lo_ (by omega)
  have h3 : w2.grownBy (w2.alloc (.cells #[.slice (some ⟨g, 0, none⟩) G.length cap] t2)) none := ⟨rfl, rfl, rfl, by simp, fun k hk _ => Below.heap_alloc w2 _ k hk⟩
  have hc2 := (hb12.cell (p := ⟨w.heap.size + 1, 0, none⟩) hz).trans hc1
  have hf2 := (hb12.frozen (p := ⟨w.heap.size + 1, 0, none⟩) hz).trans hf1
  have hs2 := hb12.size
  refine ⟨hO.grown h3 (fun g h => by cases h), hb2.trans (below_of_grown h3 hb2.size (fun g h => by cases h)), h3.cell hc2 (by intro e; cases e), ?_, cell_new _ _ _, by omega, hgs.2⟩
  rw [World.frozen?_of_block (h3.block (w.heap.size + 1) (by omega) (by intro e; cases e))]; exact hf2
set_option maxRecDepth 100000 in
set_option maxHeartbeats 2000000 in
theorem specLine_same (G : List Nat) (hG : Sw.GVN G) (A : Option Addr) (c : Nat) (a b : Nat) (ha : a < G.length) (hb : b < G.length) (hab : a ≠ b) (on : Bool) (w : World) (hr : RdI w w.heap.size A (Sw.toI G)) (hp : (Sw.nb G a).testBit b = on) :
    Calls Tryd.prog 31 #[.agg #[.slice A G.length c], .int .i64 a, .int .i64 b, .bool on] w fun e w' => ∃ v, e = .returned (.tuple #[.agg #[v], .bool true]) ∧ OwnI w' w.heap.size w'.heap.size v (Sw.toI (Sw.tab G.length (Sw.lineF (Sw.nb G) a b on))) ∧ Below w.heap.size w w' := by
  obtain ⟨ad, rfl, hrg⟩ := RdG.of hG hr
  have HG := Lib.hid hG
  have h9 := hG.le
  have hlt := hG.lt
  have Hsym := Lib.hid (hG.sym a b)
  clear hG
  have hca : Sw.nb G a < 512 := Nat.lt_of_lt_of_le (hlt a) (Sw.pow29' h9)
  have hcb : Sw.nb G b < 512 := Nat.lt_of_lt_of_le (hlt b) (Sw.pow29' h9)
  have hwa : IntKind.i64.wrap ((2 : Int) ^ a) = 2 ^ a := IntWalk.i64_in _ (by have := pow9 (n := a) (by omega); have := pow1 a; omega)
  have hwb : IntKind.i64.wrap ((2 : Int) ^ b) = 2 ^ b := IntWalk.i64_in _ (by have := pow9 (n := b) (by omega); have := pow1 b; omega)
  have hpa : (2 : Int) ^ a ≤ 512 := pow9 (by omega)
  have hpa1 := pow1 a
  have hpb : (2 : Int) ^ b ≤ 512 := pow9 (by omega)
  have hpb1 := pow1 b
  have hqa : (2 : Nat) ^ a < 1099511627776 := Nat.lt_of_le_of_lt (Nat.pow_le_pow_right (n := 2) (i := a) (j := 9) (by decide) (by omega)) (by decide)
  have hqb : (2 : Nat) ^ b < 1099511627776 := Nat.lt_of_le_of_lt (Nat.pow_le_pow_right (n := 2) (i := b) (j := 9) (by decide) (by omega)) (by decide)
  have hx1 := fun W => l1Other (Sw.nb G a) (2 ^ b) (by omega) hqb W
  have hx2 := fun W => l1Other (Sw.nb G b) (2 ^ a) (by omega) hqa W
  rw [← pow_nat] at hx1 hx2
  have HX1 := Lib.hid hx1
  have HX2 := Lib.hid hx2
  clear hx1 hx2 hqa hqb
  have hd1 : decide (a = b) = false := by rw [decide_eq_false_iff_not]; exact hab
  have hd3 : ((a : Int) == (b : Int)) = false := by rw [beq_nat]; exact hd1
  have hd2 : ¬ (a : Int) = (b : Int) := by omega
  obtain ⟨i0, hi, hz0, hz1, hz2⟩ := info_parts info_int
  go_enter Tryd.func31, Tryd.ntmps31
  go_wp2_with fail
  refine (specGV G HG.out ad c _ (hrg.at_ (below2 _ _))).mono ?_
  rintro e w1 ⟨rfl, hb1⟩
  obtain ⟨hb1, hz1', hc0, hc1, hf1⟩ := box2_after hb1
  go_wp2_with fail
  refine (l1In_yes _ _ _ _ (by omega) (by omega)).mono ?_
  rintro e w' ⟨rfl, rfl⟩
  go_wp2_with fail
  refine (l1In_yes _ _ _ _ (by omega) (by omega)).mono ?_
  rintro e w' ⟨rfl, rfl⟩
  have hrw := (hrg.at_ hb1).toI
  have hz0' : w.heap.size < w1.heap.size := by omega
  have hcA := ((below1 (w := w1) (.cells #[] 3)).cell (p := ⟨w.heap.size, 0, none⟩) hz0').trans hc0
  go_wp2_with (at_builtin; go_loud (refine wpList_copy rfl _ _ rfl hi hz0 hz1 hz2 (hrw.at_ (below1 _)) (by rw [Sw.toI_len]; omega) (World.ownsRow_lit w1 #[] 0 (Nat.le_refl _) (by unfold maxLen; omega) rfl) (by simp) rfl G.length (Sw.toI_len G) rfl ?_); intro g cap w2 hown hgrow; obtain ⟨hbb, hsz2, hkeep⟩ := copy_keeps hgrow hb1; have hc0 := hkeep _ _ (by omega) hc0; have hrg2 := hrg.at_ hbb; have hca2 := hrg2.cell a ha; have had := hrg2.blk; have hlow : w.heap.size < w2.heap.size := (by omega); go_loud (have hcX := ((below1 (w := w2) (.cells #[.slice (some ⟨g, 0, none⟩) G.length cap] 25)).cell (p := ad.add a) (Nat.lt_of_le_of_lt (Nat.le_of_eq (add_block ad a)) had)).trans hca2))
  have HS := Lib.hid (SL.start (t2 := 25) hz1' hb1 hc1 hf1 hown hgrow)
  have hB := l1Bit (Sw.nb G a) b (by omega) (by omega) (w2.alloc (.cells #[.slice (some ⟨g, 0, none⟩) G.length cap] 25))
  clear hown hgrow hkeep hbb hrg2 hc0 hc1 hf1 hb1 hi hz0 hz1 hz2 hrw hca2
  have HE := Lib.hid (Sw.lineF_same (f := Sw.nb G) (a := a) (b := b) hp (Hsym.out.trans hp)).symm
  cases on
  · rw [show Sw.bit (Sw.nb G a) b = 0 by rw [Sw.bit_eq, hp]; rfl] at hB
    clear hp
    refine hB.mono ?_
    rintro e w' ⟨rfl, rfl⟩
    have HF := Lib.hid (SL.done HS.out HE.out)
    obtain ⟨_, _, hcz, hfz, hcx, _, _⟩ := HS.out
    go_wp2_with fail
    exact bodyPost_ret (v := .tuple #[.agg #[.slice (some ⟨g, 0, none⟩) G.length cap], .bool true]) (by have q := (HF.out (.slice (some ⟨g, 0, none⟩) G.length cap)).2.2; simp [results, Tryd.results31, go_sem, q]) rfl ⟨_, rfl, (HF.out _).1, (HF.out _).2.1⟩
  · rw [show Sw.bit (Sw.nb G a) b = 1 by rw [Sw.bit_eq, hp]; rfl] at hB
    clear hp
    refine hB.mono ?_
    rintro e w' ⟨rfl, rfl⟩
    have HF := Lib.hid (SL.done HS.out HE.out)
    obtain ⟨_, _, hcz, hfz, hcx, _, _⟩ := HS.out
    go_wp2_with fail
    exact bodyPost_ret (v := .tuple #[.agg #[.slice (some ⟨g, 0, none⟩) G.length cap], .bool true]) (by have q := (HF.out (.slice (some ⟨g, 0, none⟩) G.length cap)).2.2; simp [results, Tryd.results31, go_sem, q]) rfl ⟨_, rfl, (HF.out _).1, (HF.out _).2.1⟩
end Go.Proofs.YtmghnfadgnolpaaDoor

