/- LineSet of the reference by its contract. No conditions. -/
import Derived.Test.YtmghnfadgnolpaaDoorLine4
import Derived.Test.YtmghnfadgnolpaaDoorLine5
namespace Go.Proofs.YtmghnfadgnolpaaDoor
open Go.RowKit
theorem specLine_yes (G : List Nat) (hG : Sw.GVN G) (A : Option Addr) (c : Nat) (a b : Nat) (ha : a < G.length) (hb : b < G.length) (hab : a ≠ b) (on : Bool) (w : World) (hr : RdI w w.heap.size A (Sw.toI G)) :
    Calls Tryd.prog 31 #[.agg #[.slice A G.length c], .int .i64 a, .int .i64 b, .bool on] w fun e w' => ∃ v, e = .returned (.tuple #[.agg #[v], .bool true]) ∧ OwnI w' w.heap.size w'.heap.size v (Sw.toI (Sw.tab G.length (Sw.lineF (Sw.nb G) a b on))) ∧ Below w.heap.size w w' := by
  by_cases hp : (Sw.nb G a).testBit b = on
  · exact specLine_same G hG A c a b ha hb hab on w hr hp
  · cases on
    · rw [Bool.not_eq_false] at hp; exact specLine_off G hG A c a b ha hb hab w hr hp
    · rw [Bool.not_eq_true] at hp; exact specLine_on G hG A c a b ha hb hab w hr hp
theorem specLine_n1 (l : List Int) (A : Option Addr) (c : Nat) (p q : Int) (on : Bool) (hl : l.length ≤ 1048576) (w : World) (hr : RdI w w.heap.size A l) (hv : Sw.gvB l = false) :
    Calls Tryd.prog 31 #[.agg #[.slice A l.length c], .int .i64 p, .int .i64 q, .bool on] w fun e w' => ∃ v, e = .returned (.tuple #[.agg #[v], .bool false]) ∧ OwnI w' w.heap.size w'.heap.size v [] ∧ Below w.heap.size w w' := by
  go_enter Tryd.func31, Tryd.ntmps31
  go_wp2_with fail
  refine (specGraphValid_no l A c (by omega) hv _ (hr.at_ (below2 _ _))).mono ?_
  rintro e w1 ⟨rfl, hb1⟩
  obtain ⟨hb1, hz1, hc0, hc1, hf1⟩ := box2_after hb1
  have HB := Lib.hid (fun u => hb1.setCell (p := ⟨w.heap.size + 1, 0, none⟩) (by simp) u)
  have HC := Lib.hid (fun u => World.cell?_setCell_same' w1 ⟨w.heap.size + 1, 0, none⟩ u (by rw [hc1]; rfl))
  clear hb1
  go_wp2_with fail
  exact bodyPost_ret (v := .tuple #[.agg #[.slice none 0 0], .bool false]) (by have q := HC.out (.slice none 0 0); simp [results, Tryd.results31, go_sem, q]) rfl ⟨_, rfl, OwnI.nil _, HB.out _⟩
theorem specLine_n2 (l : List Int) (A : Option Addr) (c : Nat) (p q : Int) (on : Bool) (hl : l.length ≤ 1048576) (w : World) (hr : RdI w w.heap.size A l) (hv : Sw.gvB l = true) (h1 : p < 0) :
    Calls Tryd.prog 31 #[.agg #[.slice A l.length c], .int .i64 p, .int .i64 q, .bool on] w fun e w' => ∃ v, e = .returned (.tuple #[.agg #[v], .bool false]) ∧ OwnI w' w.heap.size w'.heap.size v [] ∧ Below w.heap.size w w' := by
  go_enter Tryd.func31, Tryd.ntmps31
  go_wp2_with fail
  refine (specGraphValid_yes l A c (by omega) hv _ (hr.at_ (below2 _ _))).mono ?_
  rintro e w1 ⟨rfl, hb1⟩
  obtain ⟨hb1, hz1, hc0, hc1, hf1⟩ := box2_after hb1
  have HB := Lib.hid (fun u => hb1.setCell (p := ⟨w.heap.size + 1, 0, none⟩) (by simp) u)
  have HC := Lib.hid (fun u => World.cell?_setCell_same' w1 ⟨w.heap.size + 1, 0, none⟩ u (by rw [hc1]; rfl))
  clear hb1
  go_wp2_with fail
  refine (l1In_no _ _ _ _ (by omega)).mono ?_
  rintro e w' ⟨rfl, rfl⟩
  go_wp2_with fail
  exact bodyPost_ret (v := .tuple #[.agg #[.slice none 0 0], .bool false]) (by have q := HC.out (.slice none 0 0); simp [results, Tryd.results31, go_sem, q]) rfl ⟨_, rfl, OwnI.nil _, HB.out _⟩
theorem specLine_n3 (l : List Int) (A : Option Addr) (c : Nat) (p q : Int) (on : Bool) (hl : l.length ≤ 1048576) (w : World) (hr : RdI w w.heap.size A l) (hv : Sw.gvB l = true) (_h1 : 0 ≤ p) (h2 : (l.length : Int) ≤ p) :
    Calls Tryd.prog 31 #[.agg #[.slice A l.length c], .int .i64 p, .int .i64 q, .bool on] w fun e w' => ∃ v, e = .returned (.tuple #[.agg #[v], .bool false]) ∧ OwnI w' w.heap.size w'.heap.size v [] ∧ Below w.heap.size w w' := by
  go_enter Tryd.func31, Tryd.ntmps31
  go_wp2_with fail
  refine (specGraphValid_yes l A c (by omega) hv _ (hr.at_ (below2 _ _))).mono ?_
  rintro e w1 ⟨rfl, hb1⟩
  obtain ⟨hb1, hz1, hc0, hc1, hf1⟩ := box2_after hb1
  have HB := Lib.hid (fun u => hb1.setCell (p := ⟨w.heap.size + 1, 0, none⟩) (by simp) u)
  have HC := Lib.hid (fun u => World.cell?_setCell_same' w1 ⟨w.heap.size + 1, 0, none⟩ u (by rw [hc1]; rfl))
  clear hb1
  go_wp2_with fail
  refine (l1In_no _ _ _ _ (by omega)).mono ?_
  rintro e w' ⟨rfl, rfl⟩
  go_wp2_with fail
  exact bodyPost_ret (v := .tuple #[.agg #[.slice none 0 0], .bool false]) (by have q := HC.out (.slice none 0 0); simp [results, Tryd.results31, go_sem, q]) rfl ⟨_, rfl, OwnI.nil _, HB.out _⟩
theorem specLine_n4 (l : List Int) (A : Option Addr) (c : Nat) (p q : Int) (on : Bool) (hl : l.length ≤ 1048576) (w : World) (hr : RdI w w.heap.size A l) (hv : Sw.gvB l = true) (h1 : 0 ≤ p) (h2 : p < l.length) (h3 : q < 0) :
    Calls Tryd.prog 31 #[.agg #[.slice A l.length c], .int .i64 p, .int .i64 q, .bool on] w fun e w' => ∃ v, e = .returned (.tuple #[.agg #[v], .bool false]) ∧ OwnI w' w.heap.size w'.heap.size v [] ∧ Below w.heap.size w w' := by
  go_enter Tryd.func31, Tryd.ntmps31
  go_wp2_with fail
  refine (specGraphValid_yes l A c (by omega) hv _ (hr.at_ (below2 _ _))).mono ?_
  rintro e w1 ⟨rfl, hb1⟩
  obtain ⟨hb1, hz1, hc0, hc1, hf1⟩ := box2_after hb1
  have HB := Lib.hid (fun u => hb1.setCell (p := ⟨w.heap.size + 1, 0, none⟩) (by simp) u)
  have HC := Lib.hid (fun u => World.cell?_setCell_same' w1 ⟨w.heap.size + 1, 0, none⟩ u (by rw [hc1]; rfl))
  clear hb1
  go_wp2_with fail
  refine (l1In_yes _ _ _ _ (by omega) (by omega)).mono ?_
  rintro e w' ⟨rfl, rfl⟩
  go_wp2_with fail
  refine (l1In_no _ _ _ _ (by omega)).mono ?_
  rintro e w' ⟨rfl, rfl⟩
  go_wp2_with fail
  exact bodyPost_ret (v := .tuple #[.agg #[.slice none 0 0], .bool false]) (by have q := HC.out (.slice none 0 0); simp [results, Tryd.results31, go_sem, q]) rfl ⟨_, rfl, OwnI.nil _, HB.out _⟩
theorem specLine_n5 (l : List Int) (A : Option Addr) (c : Nat) (p q : Int) (on : Bool) (hl : l.length ≤ 1048576) (w : World) (hr : RdI w w.heap.size A l) (hv : Sw.gvB l = true) (h1 : 0 ≤ p) (h2 : p < l.length) (_h3 : 0 ≤ q) (h4 : (l.length : Int) ≤ q) :
    Calls Tryd.prog 31 #[.agg #[.slice A l.length c], .int .i64 p, .int .i64 q, .bool on] w fun e w' => ∃ v, e = .returned (.tuple #[.agg #[v], .bool false]) ∧ OwnI w' w.heap.size w'.heap.size v [] ∧ Below w.heap.size w w' := by
  go_enter Tryd.func31, Tryd.ntmps31
  go_wp2_with fail
  refine (specGraphValid_yes l A c (by omega) hv _ (hr.at_ (below2 _ _))).mono ?_
  rintro e w1 ⟨rfl, hb1⟩
  obtain ⟨hb1, hz1, hc0, hc1, hf1⟩ := box2_after hb1
  have HB := Lib.hid (fun u => hb1.setCell (p := ⟨w.heap.size + 1, 0, none⟩) (by simp) u)
  have HC := Lib.hid (fun u => World.cell?_setCell_same' w1 ⟨w.heap.size + 1, 0, none⟩ u (by rw [hc1]; rfl))
  clear hb1
  go_wp2_with fail
  refine (l1In_yes _ _ _ _ (by omega) (by omega)).mono ?_
  rintro e w' ⟨rfl, rfl⟩
  go_wp2_with fail
  refine (l1In_no _ _ _ _ (by omega)).mono ?_
  rintro e w' ⟨rfl, rfl⟩
  go_wp2_with fail
  exact bodyPost_ret (v := .tuple #[.agg #[.slice none 0 0], .bool false]) (by have q := HC.out (.slice none 0 0); simp [results, Tryd.results31, go_sem, q]) rfl ⟨_, rfl, OwnI.nil _, HB.out _⟩
theorem specLine_n6 (l : List Int) (A : Option Addr) (c : Nat) (p q : Int) (on : Bool) (hl : l.length ≤ 1048576) (w : World) (hr : RdI w w.heap.size A l) (hv : Sw.gvB l = true) (h1 : 0 ≤ p) (h2 : p < l.length) (h3 : p = q) :
    Calls Tryd.prog 31 #[.agg #[.slice A l.length c], .int .i64 p, .int .i64 q, .bool on] w fun e w' => ∃ v, e = .returned (.tuple #[.agg #[v], .bool false]) ∧ OwnI w' w.heap.size w'.heap.size v [] ∧ Below w.heap.size w w' := by
  subst h3
  go_enter Tryd.func31, Tryd.ntmps31
  go_wp2_with fail
  refine (specGraphValid_yes l A c (by omega) hv _ (hr.at_ (below2 _ _))).mono ?_
  rintro e w1 ⟨rfl, hb1⟩
  obtain ⟨hb1, hz1, hc0, hc1, hf1⟩ := box2_after hb1
  have HB := Lib.hid (fun u => hb1.setCell (p := ⟨w.heap.size + 1, 0, none⟩) (by simp) u)
  have HC := Lib.hid (fun u => World.cell?_setCell_same' w1 ⟨w.heap.size + 1, 0, none⟩ u (by rw [hc1]; rfl))
  clear hb1
  go_wp2_with fail
  refine (l1In_yes _ _ _ _ (by omega) (by omega)).mono ?_
  rintro e w' ⟨rfl, rfl⟩
  go_wp2_with fail
  refine (l1In_yes _ _ _ _ (by omega) (by omega)).mono ?_
  rintro e w' ⟨rfl, rfl⟩
  go_wp2_with fail
  exact bodyPost_ret (v := .tuple #[.agg #[.slice none 0 0], .bool false]) (by have q := HC.out (.slice none 0 0); simp [results, Tryd.results31, go_sem, q]) rfl ⟨_, rfl, OwnI.nil _, HB.out _⟩
theorem specLineSet (l : List Int) (A : Option Addr) (c : Nat) (p q : Int) (on : Bool) (hl : l.length ≤ 1048576) (w : World) (hr : RdI w w.heap.size A l) :
    Calls Tryd.prog 31 #[.agg #[.slice A l.length c], .int .i64 p, .int .i64 q, .bool on] w fun e w' => ∃ v, e = .returned (.tuple #[.agg #[v], .bool (Sw.vLineB l p q)]) ∧ OwnI w' w.heap.size w'.heap.size v (Sw.vLine l p q on) ∧ Below w.heap.size w w' := by
  rcases Sw.vLineB_cases l p q with h | ⟨G, a, b, rfl, hG, rfl, rfl, ha, hb, hab⟩
  · rw [h, Sw.vLine_no h]
    by_cases hv : Sw.gvB l = false
    · exact specLine_n1 l A c p q on hl w hr hv
    · rw [Bool.not_eq_false] at hv
      have hn := Sw.vLineB_no h
      rw [hv] at hn
      by_cases h1 : p < 0
      · exact specLine_n2 l A c p q on hl w hr hv h1
      · by_cases h2 : (l.length : Int) ≤ p
        · exact specLine_n3 l A c p q on hl w hr hv (by omega) h2
        · by_cases h3 : q < 0
          · exact specLine_n4 l A c p q on hl w hr hv (by omega) (by omega) h3
          · by_cases h4 : (l.length : Int) ≤ q
            · exact specLine_n5 l A c p q on hl w hr hv (by omega) (by omega) (by omega) h4
            · refine specLine_n6 l A c p q on hl w hr hv (by omega) (by omega) ?_
              rcases hn with e | e | e | e | e | e
              · cases e
              all_goals omega
  · rw [Sw.vLineB_yes hG ha hb hab, Sw.vLine_yes hG ha hb hab, Sw.toI_len]
    exact specLine_yes G hG A c a b ha hb hab on w hr
end Go.Proofs.YtmghnfadgnolpaaDoor

