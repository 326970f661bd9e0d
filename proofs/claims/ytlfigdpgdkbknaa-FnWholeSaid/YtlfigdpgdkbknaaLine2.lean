/- LineSet of the program by its contract. No conditions. -/
import Derived.Test.YtlfigdpgdkbknaaLine
namespace Go.Proofs.Ytlfigdpgdkbknaa
open Go.RowKit
theorem implLine_n1 (l : List Int) (A : Option Addr) (c : Nat) (p q : Int) (on : Bool) (hl : l.length ≤ 1048576) (w : World) (hr : RdI w w.heap.size A l) (hv : Sw.gvB l = false) :
    Calls Try.prog 19 #[.agg #[.slice A l.length c], .int .i64 p, .int .i64 q, .bool on] w fun e w' => ∃ v, e = .returned (.tuple #[.agg #[v], .bool false]) ∧ OwnI w' w.heap.size w'.heap.size v [] ∧ Below w.heap.size w w' := by
  go_enter Try.func19, Try.ntmps19
  go_wp2_with fail
  refine (implGraphValid_no l A c (by omega) hv _ (hr.at_ (below2 _ _))).mono ?_
  rintro e w1 ⟨rfl, hb1⟩
  obtain ⟨hb1, hz1, hc0, hc1, hf1⟩ := box2_after hb1
  have HB := Lib.hid (fun u => hb1.setCell (p := ⟨w.heap.size + 1, 0, none⟩) (by simp) u)
  have HC := Lib.hid (fun u => World.cell?_setCell_same' w1 ⟨w.heap.size + 1, 0, none⟩ u (by rw [hc1]; rfl))
  clear hb1
  go_wp2_with fail
  exact bodyPost_ret (v := .tuple #[.agg #[.slice none 0 0], .bool false]) (by have q := HC.out (.slice none 0 0); simp [results, Try.results19, go_sem, q]) rfl ⟨_, rfl, OwnI.nil _, HB.out _⟩
theorem implLine_n2 (l : List Int) (A : Option Addr) (c : Nat) (p q : Int) (on : Bool) (hl : l.length ≤ 1048576) (w : World) (hr : RdI w w.heap.size A l) (hv : Sw.gvB l = true) (h1 : p < 0) :
    Calls Try.prog 19 #[.agg #[.slice A l.length c], .int .i64 p, .int .i64 q, .bool on] w fun e w' => ∃ v, e = .returned (.tuple #[.agg #[v], .bool false]) ∧ OwnI w' w.heap.size w'.heap.size v [] ∧ Below w.heap.size w w' := by
  go_enter Try.func19, Try.ntmps19
  go_wp2_with fail
  refine (implGraphValid_yes l A c (by omega) hv _ (hr.at_ (below2 _ _))).mono ?_
  rintro e w1 ⟨rfl, hb1⟩
  obtain ⟨hb1, hz1, hc0, hc1, hf1⟩ := box2_after hb1
  have HB := Lib.hid (fun u => hb1.setCell (p := ⟨w.heap.size + 1, 0, none⟩) (by simp) u)
  have HC := Lib.hid (fun u => World.cell?_setCell_same' w1 ⟨w.heap.size + 1, 0, none⟩ u (by rw [hc1]; rfl))
  clear hb1
  go_wp2_with fail
  exact bodyPost_ret (v := .tuple #[.agg #[.slice none 0 0], .bool false]) (by have q := HC.out (.slice none 0 0); simp [results, Try.results19, go_sem, q]) rfl ⟨_, rfl, OwnI.nil _, HB.out _⟩
theorem implLine_n3 (l : List Int) (A : Option Addr) (c : Nat) (p q : Int) (on : Bool) (hl : l.length ≤ 1048576) (w : World) (hr : RdI w w.heap.size A l) (hv : Sw.gvB l = true) (h1 : 0 ≤ p) (h2 : (l.length : Int) ≤ p) :
    Calls Try.prog 19 #[.agg #[.slice A l.length c], .int .i64 p, .int .i64 q, .bool on] w fun e w' => ∃ v, e = .returned (.tuple #[.agg #[v], .bool false]) ∧ OwnI w' w.heap.size w'.heap.size v [] ∧ Below w.heap.size w w' := by
  go_enter Try.func19, Try.ntmps19
  go_wp2_with fail
  refine (implGraphValid_yes l A c (by omega) hv _ (hr.at_ (below2 _ _))).mono ?_
  rintro e w1 ⟨rfl, hb1⟩
  obtain ⟨hb1, hz1, hc0, hc1, hf1⟩ := box2_after hb1
  have HB := Lib.hid (fun u => hb1.setCell (p := ⟨w.heap.size + 1, 0, none⟩) (by simp) u)
  have HC := Lib.hid (fun u => World.cell?_setCell_same' w1 ⟨w.heap.size + 1, 0, none⟩ u (by rw [hc1]; rfl))
  clear hb1
  go_wp2_with fail
  exact bodyPost_ret (v := .tuple #[.agg #[.slice none 0 0], .bool false]) (by have q := HC.out (.slice none 0 0); simp [results, Try.results19, go_sem, q]) rfl ⟨_, rfl, OwnI.nil _, HB.out _⟩
theorem implLine_n4 (l : List Int) (A : Option Addr) (c : Nat) (p q : Int) (on : Bool) (hl : l.length ≤ 1048576) (w : World) (hr : RdI w w.heap.size A l) (hv : Sw.gvB l = true) (h1 : 0 ≤ p) (h2 : p < l.length) (h3 : q < 0) :
    Calls Try.prog 19 #[.agg #[.slice A l.length c], .int .i64 p, .int .i64 q, .bool on] w fun e w' => ∃ v, e = .returned (.tuple #[.agg #[v], .bool false]) ∧ OwnI w' w.heap.size w'.heap.size v [] ∧ Below w.heap.size w w' := by
  go_enter Try.func19, Try.ntmps19
  go_wp2_with fail
  refine (implGraphValid_yes l A c (by omega) hv _ (hr.at_ (below2 _ _))).mono ?_
  rintro e w1 ⟨rfl, hb1⟩
  obtain ⟨hb1, hz1, hc0, hc1, hf1⟩ := box2_after hb1
  have HB := Lib.hid (fun u => hb1.setCell (p := ⟨w.heap.size + 1, 0, none⟩) (by simp) u)
  have HC := Lib.hid (fun u => World.cell?_setCell_same' w1 ⟨w.heap.size + 1, 0, none⟩ u (by rw [hc1]; rfl))
  clear hb1
  go_wp2_with fail
  exact bodyPost_ret (v := .tuple #[.agg #[.slice none 0 0], .bool false]) (by have q := HC.out (.slice none 0 0); simp [results, Try.results19, go_sem, q]) rfl ⟨_, rfl, OwnI.nil _, HB.out _⟩
theorem implLine_n5 (l : List Int) (A : Option Addr) (c : Nat) (p q : Int) (on : Bool) (hl : l.length ≤ 1048576) (w : World) (hr : RdI w w.heap.size A l) (hv : Sw.gvB l = true) (h1 : 0 ≤ p) (h2 : p < l.length) (h3 : 0 ≤ q) (h4 : (l.length : Int) ≤ q) :
    Calls Try.prog 19 #[.agg #[.slice A l.length c], .int .i64 p, .int .i64 q, .bool on] w fun e w' => ∃ v, e = .returned (.tuple #[.agg #[v], .bool false]) ∧ OwnI w' w.heap.size w'.heap.size v [] ∧ Below w.heap.size w w' := by
  go_enter Try.func19, Try.ntmps19
  go_wp2_with fail
  refine (implGraphValid_yes l A c (by omega) hv _ (hr.at_ (below2 _ _))).mono ?_
  rintro e w1 ⟨rfl, hb1⟩
  obtain ⟨hb1, hz1, hc0, hc1, hf1⟩ := box2_after hb1
  have HB := Lib.hid (fun u => hb1.setCell (p := ⟨w.heap.size + 1, 0, none⟩) (by simp) u)
  have HC := Lib.hid (fun u => World.cell?_setCell_same' w1 ⟨w.heap.size + 1, 0, none⟩ u (by rw [hc1]; rfl))
  clear hb1
  go_wp2_with fail
  exact bodyPost_ret (v := .tuple #[.agg #[.slice none 0 0], .bool false]) (by have q := HC.out (.slice none 0 0); simp [results, Try.results19, go_sem, q]) rfl ⟨_, rfl, OwnI.nil _, HB.out _⟩
theorem implLine_n6 (l : List Int) (A : Option Addr) (c : Nat) (p q : Int) (on : Bool) (hl : l.length ≤ 1048576) (w : World) (hr : RdI w w.heap.size A l) (hv : Sw.gvB l = true) (h1 : 0 ≤ p) (h2 : p < l.length) (h3 : p = q) :
    Calls Try.prog 19 #[.agg #[.slice A l.length c], .int .i64 p, .int .i64 q, .bool on] w fun e w' => ∃ v, e = .returned (.tuple #[.agg #[v], .bool false]) ∧ OwnI w' w.heap.size w'.heap.size v [] ∧ Below w.heap.size w w' := by
  subst h3
  go_enter Try.func19, Try.ntmps19
  go_wp2_with fail
  refine (implGraphValid_yes l A c (by omega) hv _ (hr.at_ (below2 _ _))).mono ?_
  rintro e w1 ⟨rfl, hb1⟩
  obtain ⟨hb1, hz1, hc0, hc1, hf1⟩ := box2_after hb1
  have HB := Lib.hid (fun u => hb1.setCell (p := ⟨w.heap.size + 1, 0, none⟩) (by simp) u)
  have HC := Lib.hid (fun u => World.cell?_setCell_same' w1 ⟨w.heap.size + 1, 0, none⟩ u (by rw [hc1]; rfl))
  clear hb1
  go_wp2_with fail
  exact bodyPost_ret (v := .tuple #[.agg #[.slice none 0 0], .bool false]) (by have q := HC.out (.slice none 0 0); simp [results, Try.results19, go_sem, q]) rfl ⟨_, rfl, OwnI.nil _, HB.out _⟩
theorem implLineSet (l : List Int) (A : Option Addr) (c : Nat) (p q : Int) (on : Bool) (hl : l.length ≤ 1048576) (w : World) (hr : RdI w w.heap.size A l) :
    Calls Try.prog 19 #[.agg #[.slice A l.length c], .int .i64 p, .int .i64 q, .bool on] w fun e w' => ∃ v, e = .returned (.tuple #[.agg #[v], .bool (Sw.vLineB l p q)]) ∧ OwnI w' w.heap.size w'.heap.size v (Sw.vLine l p q on) ∧ Below w.heap.size w w' := by
  rcases Sw.vLineB_cases l p q with h | ⟨G, a, b, rfl, hG, rfl, rfl, ha, hb, hab⟩
  · rw [h, Sw.vLine_no h]
    by_cases hv : Sw.gvB l = false
    · exact implLine_n1 l A c p q on hl w hr hv
    · rw [Bool.not_eq_false] at hv
      have hn := Sw.vLineB_no h
      rw [hv] at hn
      by_cases h1 : p < 0
      · exact implLine_n2 l A c p q on hl w hr hv h1
      · by_cases h2 : (l.length : Int) ≤ p
        · exact implLine_n3 l A c p q on hl w hr hv (by omega) h2
        · by_cases h3 : q < 0
          · exact implLine_n4 l A c p q on hl w hr hv (by omega) (by omega) h3
          · by_cases h4 : (l.length : Int) ≤ q
            · exact implLine_n5 l A c p q on hl w hr hv (by omega) (by omega) (by omega) h4
            · refine implLine_n6 l A c p q on hl w hr hv (by omega) (by omega) ?_
              rcases hn with e | e | e | e | e | e
              · cases e
              all_goals omega
  · rw [Sw.vLineB_yes hG ha hb hab, Sw.vLine_yes hG ha hb hab, Sw.toI_len]
    exact implLine_yes G hG A c a b ha hb hab on w hr
end Go.Proofs.Ytlfigdpgdkbknaa

