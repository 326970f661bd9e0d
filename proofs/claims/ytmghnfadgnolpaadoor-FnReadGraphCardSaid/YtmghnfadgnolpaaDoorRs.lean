/- The reference's ReadGraph by its contract. Conditions: at most 2^40 bytes. -/
import Derived.Test.YtmghnfadgnolpaaDoorCu2
import Derived.Test.YtmghnfadgnolpaaDoorMath16
import Derived.Test.YtmghnfadgnolpaaDoorRt2
import Derived.Test.YtmghnfadgnolpaaDoorLine6
import Derived.Deep.RegionHeld3
namespace Go.Proofs.YtmghnfadgnolpaaDoor
open Go.RowKit
theorem strs_get (L : List (List UInt8)) (k : Nat) (h : k < L.length) : (strs L)[k]? = some (.string ⟨(L.getD k []).toArray⟩) := by
  unfold strs; rw [List.getElem?_map, List.getD_eq_getElem?_getD, List.getElem?_eq_getElem h]; rfl
theorem Sw.getD_mem {L : List (List UInt8)} {k : Nat} (h : k < L.length) : L.getD k [] ∈ L := by
  rw [List.getD_eq_getElem?_getD, List.getElem?_eq_getElem h]; exact List.getElem_mem h
/-- the texts L in the block g -/
def RSg (W : World) (lo hi g : Nat) (L : List (List UInt8)) : Prop := lo ≤ g ∧ g < hi ∧ hi ≤ W.heap.size ∧ ∀ k, k < L.length → W.cell? ⟨g, k, none⟩ = some (.string ⟨(L.getD k []).toArray⟩)
theorem OwnS.rs {W : World} {lo : Nat} {v : Value} {L : List (List UInt8)} (h : OwnS W lo v L) (hL : 1 ≤ L.length) : ∃ g c, v = .slice (some ⟨g, 0, none⟩) L.length c ∧ RSg W lo W.heap.size g L := by
  rcases h.2 with ⟨hv, hn⟩ | ⟨g, cap, cur, hv, hg, hh, _⟩
  · omega
  · refine ⟨g, cap, hv, hg, (World.ownsRow.lt h g (by rw [hv]; rfl)).2, Nat.le_refl _, fun k hk => ?_⟩
    have h1 : W.ownsRow lo 9 1 v L.length (strs L) := h
    rw [hv] at h1
    rw [h1.cellAt k (by omega)]; exact strs_get L k hk
theorem RSg.next {W W' : World} {lo hi g B : Nat} {L : List (List UInt8)} (h : RSg W lo hi g L) (hb : Below B W W') (hB : hi ≤ B) : RSg W' lo hi g L :=
  ⟨h.1, h.2.1, Nat.le_trans h.2.2.1 hb.size, fun k hk => (hb.cell (p := ⟨g, k, none⟩) (Nat.lt_of_lt_of_le h.2.1 hB)).trans (h.2.2.2 k hk)⟩
theorem RSg.store {W : World} {lo hi g b : Nat} {L : List (List UInt8)} (h : RSg W lo hi g L) (hb : b < lo ∨ hi ≤ b) (u : Value) : RSg (W.setCell ⟨b, 0, none⟩ u) lo hi g L := by
  obtain ⟨h1, h2, h3, h4⟩ := h
  refine ⟨h1, h2, by simpa [World.setCell] using h3, fun k hk => ?_⟩
  rw [World.cell?_of_block (Below.heap_setCell _ _ _ _ (by show g ≠ b; omega))]; exact h4 k hk
/-- the result's box, still empty -/
def Bx (w W : World) : Prop := Below w.heap.size w W ∧ W.cell? ⟨w.heap.size, 0, none⟩ = some (.slice none 0 0) ∧ W.frozen? ⟨w.heap.size, 0, none⟩ = false ∧ w.heap.size < W.heap.size
theorem Bx.start {w w1 : World} {t : TypeId} (h : Below (w.alloc (.cells #[.slice none 0 0] t)).heap.size (w.alloc (.cells #[.slice none 0 0] t)) w1) : Bx w w1 :=
  ⟨(box_after h).1, (box_after h).2.1, free_after h, (box_after h).2.2⟩
theorem Bx.next {w W W' : World} (h : Bx w W) (hb : Below W.heap.size W W') : Bx w W' :=
  ⟨h.1.trans (hb.mono h.1.size), (hb.cell (p := ⟨w.heap.size, 0, none⟩) h.2.2.2).trans h.2.1, (hb.frozen (p := ⟨w.heap.size, 0, none⟩) h.2.2.2).trans h.2.2.1, Nat.lt_of_lt_of_le h.2.2.2 hb.size⟩
theorem Bx.store {w W : World} {b : Nat} (h : Bx w W) (hb : w.heap.size < b) (u : Value) : Bx w (W.setCell ⟨b, 0, none⟩ u) :=
  ⟨h.1.setCell (p := ⟨b, 0, none⟩) (Nat.le_of_lt hb) u, by rw [World.cell?_of_block (Below.heap_setCell _ _ _ _ (by show w.heap.size ≠ b; omega))]; exact h.2.1, by rw [frozen_setCell]; exact h.2.2.1, by simpa [World.setCell] using h.2.2.2⟩
theorem Bx.fill {w W : World} (h : Bx w W) (u : Value) : (W.setCell ⟨w.heap.size, 0, none⟩ u).cell? ⟨w.heap.size, 0, none⟩ = some u := World.cell?_setCell_same' W ⟨w.heap.size, 0, none⟩ u (by rw [h.2.1]; rfl)
theorem Bx.filled {w W : World} (h : Bx w W) (u : Value) : Below w.heap.size w (W.setCell ⟨w.heap.size, 0, none⟩ u) := h.1.setCell (p := ⟨w.heap.size, 0, none⟩) (Nat.le_refl _) u
/-- the graph read so far, in its box at b -/
def Sg (w wr : World) (b : Nat) (A : Option Addr) (c : Nat) (g : List Int) : Prop :=
  w.heap.size < b ∧ b < wr.heap.size ∧ wr.cell? ⟨b, 0, none⟩ = some (.slice A g.length c) ∧ wr.frozen? ⟨b, 0, none⟩ = false ∧ ∃ lo hi, OwnI wr lo hi (.slice A g.length c) g ∧ w.heap.size + 1 ≤ lo ∧ (hi ≤ b ∨ b + 1 ≤ lo)
theorem Sg.next {w W W' : World} {b c : Nat} {A : Option Addr} {g : List Int} (h : Sg w W b A c g) (hb : Below W.heap.size W W') : Sg w W' b A c g := by
  obtain ⟨h1, h2, h3, h4, lo, hi, h5, h6⟩ := h
  exact ⟨h1, Nat.lt_of_lt_of_le h2 hb.size, (hb.cell (p := ⟨b, 0, none⟩) h2).trans h3, (hb.frozen (p := ⟨b, 0, none⟩) h2).trans h4, lo, hi, h5.below hb h5.2.1, h6⟩
theorem Sg.rd {w W : World} {b c : Nat} {A : Option Addr} {g : List Int} (h : Sg w W b A c g) : RdI W W.heap.size A g := by
  obtain ⟨_, _, _, _, lo, hi, h5, _⟩ := h
  obtain ⟨A', c', e, hr⟩ := h5.rd
  injection e with e _ _
  subst e; exact hr
theorem Sg.put {w W : World} {b c c' : Nat} {A A' : Option Addr} {g g' : List Int} (h : Sg w W b A c g) {lo hi : Nat} (hO : OwnI W lo hi (.slice A' g'.length c') g') (hlo : b + 1 ≤ lo) : Sg w (W.setCell ⟨b, 0, none⟩ (.slice A' g'.length c')) b A' c' g' := by
  obtain ⟨h1, h2, h3, h4, _⟩ := h
  exact ⟨h1, by simpa [World.setCell] using h2, World.cell?_setCell_same' W ⟨b, 0, none⟩ _ (by rw [h3]; rfl), by rw [frozen_setCell]; exact h4, lo, hi, hO.store_far (by omega) _, by omega, .inr hlo⟩
theorem Sg.out {w W : World} {b c : Nat} {A : Option Addr} {g : List Int} (h : Sg w W b A c g) (u : Value) : OwnI (W.setCell ⟨w.heap.size, 0, none⟩ u) w.heap.size (W.setCell ⟨w.heap.size, 0, none⟩ u).heap.size (.slice A g.length c) g := by
  obtain ⟨_, _, _, _, lo, hi, h5, h6, _⟩ := h
  exact ((h5.store_far (b := w.heap.size) (by omega) u).up.lo_ (lo' := w.heap.size) (by omega))
set_option maxRecDepth 100000 in
set_option maxHeartbeats 4000000 in
theorem specRead_1 (l : List UInt8) (hl : l.length ≤ 1099511627776) (w : World) (hT : (Sw.cutL 58 l).length ≠ 2) : Calls Tryd.prog 13 #[.string ⟨l.toArray⟩] w (RdPost w l) := by
  have HNO := Lib.hid (Sw.no_two hT)
  have HCT := Lib.hid (l1Cut 58 (by decide) l hl)
  have hTL := (Sw.cutL_len 58 l).1
  obtain ⟨T, hTe⟩ : ∃ T, T = Sw.cutL 58 l := ⟨_, rfl⟩
  rw [← hTe] at hT HCT hTL
  obtain ⟨S, hS⟩ : ∃ S : ByteArray, S = ⟨l.toArray⟩ := ⟨_, rfl⟩
  rw [← hS] at HCT ⊢
  have hq : (T.length = 2) = False := eq_false hT
  clear hS hTe
  go_enter Tryd.func13, Tryd.ntmps13
  go_wp2_with fail
  refine (HCT.out _).mono ?_
  rintro e w1 ⟨v1, rfl, hO1, hb1⟩
  have HB := Lib.hid (Bx.start hb1)
  obtain ⟨g1, c1, rfl, _⟩ := hO1.rs hTL
  clear hO1 hb1
  have HN := Lib.hid (Sw.vRd_no (HNO.out))
  obtain ⟨_, hcc, hff, _⟩ := HB.out
  have HC := Lib.hid (Bx.fill HB.out)
  go_wp2_with fail
  exact bodyPost_ret (v := .tuple #[.agg #[.slice none 0 0], .bool false]) (by have q := HC.out (.slice none 0 0); simp [results, Tryd.results13, go_sem, q]) rfl ⟨_, by rw [HN.out.1], by rw [HN.out.2]; exact OwnI.nil _, Bx.filled HB.out _⟩
set_option maxRecDepth 100000 in
set_option maxHeartbeats 4000000 in
theorem specRead_2 (l : List UInt8) (hl : l.length ≤ 1099511627776) (w : World) (hT : (Sw.cutL 58 l).length = 2) (hD : Sw.digL ((Sw.cutL 58 l).getD 0 []) < 1 ∨ 9 < Sw.digL ((Sw.cutL 58 l).getD 0 [])) : Calls Tryd.prog 13 #[.string ⟨l.toArray⟩] w (RdPost w l) := by
  have HNO := Lib.hid (Sw.no_num hD)
  have HCT := Lib.hid (l1Cut 58 (by decide) l hl)
  have hp0 : ((Sw.cutL 58 l).getD 0 []).length ≤ l.length := Sw.cutL_part (Sw.getD_mem (by omega))
  obtain ⟨T, hTe⟩ : ∃ T, T = Sw.cutL 58 l := ⟨_, rfl⟩
  rw [← hTe] at hT HCT hp0 hD
  have HDG := Lib.hid (l1Digits (T.getD 0 []) (by omega))
  unfold DigPost at HDG
  obtain ⟨S, hS⟩ : ∃ S : ByteArray, S = ⟨l.toArray⟩ := ⟨_, rfl⟩
  rw [← hS] at HCT ⊢
  clear hS hTe hp0
  go_enter Tryd.func13, Tryd.ntmps13
  go_wp2_with fail
  refine (HCT.out _).mono ?_
  rintro e w1 ⟨v1, rfl, hO1, hb1⟩
  have HB := Lib.hid (Bx.start hb1)
  obtain ⟨g1, c1, rfl, hR1⟩ := hO1.rs (by omega)
  have hc0 := hR1.2.2.2 0 (by omega)
  obtain ⟨P0, hP0⟩ : ∃ P : ByteArray, P = ⟨(T.getD 0 []).toArray⟩ := ⟨_, rfl⟩
  obtain ⟨D, hDe⟩ : ∃ D, D = Sw.digL (T.getD 0 []) := ⟨_, rfl⟩
  rw [← hP0] at HDG hc0
  rw [← hDe] at HDG hD
  clear hO1 hb1 hR1 hP0 hDe
  rw [hT]
  go_wp2_with fail
  refine (HDG.out _).mono ?_
  rintro e w2 ⟨rfl, rfl⟩
  go_wp2_with fail
  refine (l1In_no D 1 9 _ (by omega)).mono ?_
  rintro e w2 ⟨rfl, rfl⟩
  have HN := Lib.hid (Sw.vRd_no (HNO.out))
  obtain ⟨_, hcc, hff, _⟩ := HB.out
  have HC := Lib.hid (Bx.fill HB.out)
  go_wp2_with fail
  exact bodyPost_ret (v := .tuple #[.agg #[.slice none 0 0], .bool false]) (by have q := HC.out (.slice none 0 0); simp [results, Tryd.results13, go_sem, q]) rfl ⟨_, by rw [HN.out.1], by rw [HN.out.2]; exact OwnI.nil _, Bx.filled HB.out _⟩
end Go.Proofs.YtmghnfadgnolpaaDoor

