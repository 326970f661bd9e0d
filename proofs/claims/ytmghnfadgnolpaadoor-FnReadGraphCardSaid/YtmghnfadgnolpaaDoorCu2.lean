/- The reference's number of a text, by its contract. Conditions: at most 2^40 bytes. -/
import Derived.Test.YtmghnfadgnolpaaDoorCu
namespace Go.Proofs.YtmghnfadgnolpaaDoor
open Go.RowKit
theorem dgS_le (l : List UInt8) : ∀ k n, Sw.dgS l k = some n → n < 10 ^ k := by
  intro k
  induction k with
  | zero => intro n h; injection h with h; subst h; decide
  | succ k ih =>
    intro n h
    cases q : Sw.dgS l k with
    | none => rw [show k + 1 = k + 1 from rfl, Sw.dgS_none q 1] at h; cases h
    | some m =>
      have hm := ih m q
      by_cases h1 : 48 ≤ Sw.gb l k ∧ Sw.gb l k ≤ 57
      · rw [Sw.dgS_yes q h1.1 h1.2] at h
        injection h with h
        rw [Nat.pow_succ]; omega
      · rw [Sw.dgS_no (by omega)] at h; cases h
theorem dgS_le4 {l : List UInt8} {k n : Nat} (hk : k ≤ 4) (h : Sw.dgS l k = some n) : n < 10000 := by
  have h1 := dgS_le l k n h
  have h2 : 10 ^ k ≤ 10 ^ 4 := Nat.pow_le_pow_right (by decide) hk
  omega
def DigPost (w : World) (l : List UInt8) (e : Ending) (w' : World) : Prop := e = .returned (.int .i64 (Sw.digL l)) ∧ w' = w
set_option maxHeartbeats 2000000 in
theorem dig_out1 (l : List UInt8) (hl : l.length ≤ 1099511627776) (w : World) (h : ¬ (1 ≤ l.length ∧ l.length ≤ 4)) : Calls Tryd.prog 30 #[.string ⟨l.toArray⟩] w (DigPost w l) := by
  unfold DigPost
  rw [Sw.digL_out (fun q => h ⟨q.1, q.2.1⟩)]
  have hsz := sizeL l
  obtain ⟨S, hS⟩ : ∃ S : ByteArray, S = ⟨l.toArray⟩ := ⟨_, rfl⟩
  rw [← hS] at hsz ⊢
  clear hS
  go_enter Tryd.func30, Tryd.ntmps30
  go_wp2_with fail
  refine (l1In_no (l.length : Int) 1 4 _ (by omega)).mono ?_
  rintro e w' ⟨rfl, rfl⟩
  go_wp2_with fail
  go_ret
  exact ⟨rfl, rfl⟩
set_option maxHeartbeats 2000000 in
theorem dig_out2 (l : List UInt8) (w : World) (h1 : 2 ≤ l.length) (h2 : l.length ≤ 4) (h3 : Sw.gb l 0 = 48) : Calls Tryd.prog 30 #[.string ⟨l.toArray⟩] w (DigPost w l) := by
  unfold DigPost
  rw [Sw.digL_out (fun q => by rcases q.2.2 with q | q; omega; exact q h3)]
  have hsz := sizeL l
  have hi0 := idx_at l 0 (by omega) 0 rfl
  rw [h3] at hi0
  obtain ⟨S, hS⟩ : ∃ S : ByteArray, S = ⟨l.toArray⟩ := ⟨_, rfl⟩
  rw [← hS] at hsz hi0 ⊢
  have hd : decide ((1 : Int) < (l.length : Int)) = true := by rw [decide_eq_true_eq]; omega
  clear hS
  go_enter Tryd.func30, Tryd.ntmps30
  go_wp2_with fail
  refine (l1In_yes (l.length : Int) 1 4 _ (by omega) (by omega)).mono ?_
  rintro e w' ⟨rfl, rfl⟩
  go_wp2_with fail
  go_ret
  exact ⟨rfl, rfl⟩
set_option maxRecDepth 100000 in
set_option maxHeartbeats 4000000 in
theorem dig_in (l : List UInt8) (w : World) (h1 : 1 ≤ l.length) (h2 : l.length ≤ 4) (h3 : l.length = 1 ∨ (2 ≤ l.length ∧ Sw.gb l 0 ≠ 48)) : Calls Tryd.prog 30 #[.string ⟨l.toArray⟩] w (DigPost w l) := by
  unfold DigPost
  have HIN := Lib.hid (fun n => Sw.digL_in (l := l) (n := n) ⟨h1, h2, by omega⟩)
  have HBAD := Lib.hid (fun k => Sw.digL_bad (l := l) (k := k))
  obtain ⟨D, hD⟩ : ∃ D, D = Sw.digL l := ⟨_, rfl⟩
  rw [← hD] at HIN HBAD ⊢
  have hsz := sizeL l
  have hi0 := idx_at l 0 (by omega) 0 rfl
  have HIA := Lib.hid (fun k hk x hx => idx_at l k hk x hx)
  obtain ⟨S, hS⟩ : ∃ S : ByteArray, S = ⟨l.toArray⟩ := ⟨_, rfl⟩
  rw [← hS] at hsz hi0 HIA ⊢
  have h3' : (l.length = 1 ∧ decide ((1 : Int) < (l.length : Int)) = false) ∨ (decide ((1 : Int) < (l.length : Int)) = true ∧ ((Sw.gb l 0 : Int) == 48) = false) := by
    rcases h3 with q | ⟨q1, q2⟩
    · exact .inl ⟨q, by rw [decide_eq_false_iff_not]; omega⟩
    · exact .inr ⟨by rw [decide_eq_true_eq]; omega, by rw [beq_eq_false_iff_ne]; omega⟩
  obtain ⟨c0, hc0⟩ : ∃ c, c = Sw.gb l 0 := ⟨_, rfl⟩
  rw [← hc0] at hi0 h3'
  clear hS hD h3 hc0
  have H1 := Lib.hid h1
  have H2 := Lib.hid h2
  go_enter Tryd.func30, Tryd.ntmps30
  go_wp2_with fail
  refine (l1In_yes (l.length : Int) 1 4 _ (by omega) (by omega)).mono ?_
  rintro e w' ⟨rfl, rfl⟩
  rcases h3' with ⟨_, hd1⟩ | ⟨hd1, he1⟩
  · clear h1 h2 hi0
    go_wp2_with fail
    go_loopw [3, 4] (fun n i wr => ∃ k m : Nat, k ≤ l.length ∧ i = .int .i64 k ∧ n = .int .i64 m ∧ Sw.dgS l k = some m ∧ wr = w) (fun _ i _ => (l.length - intOf i).toNat)
    case atStart => exact ⟨0, 0, Nat.zero_le _, rfl, rfl, rfl, rfl⟩
    case round =>
      obtain ⟨k, m, hk, rfl, rfl, hm, rfl⟩ := hrel
      have hm4 := dgS_le4 (Nat.le_trans hk H2.out) hm
      by_cases hlt : k < l.length
      · have hdx : decide ((k : Int) < (l.length : Int)) = true := by rw [decide_eq_true_eq]; omega
        have hix := HIA.out k hlt k rfl
        have hg255 := Sw.gb_255 l k
        by_cases ha : Sw.gb l k < 48
        · have HD := HBAD.out k hlt (.inl ha)
          obtain ⟨g, hg⟩ : ∃ g, g = Sw.gb l k := ⟨_, rfl⟩
          rw [← hg] at hix ha
          have hda : decide ((g : Int) < 48) = true := by rw [decide_eq_true_eq]; omega
          subst HD
          clear hg ha hm HIN HBAD hg255
          go_wp2_with fail
          go_ret
          exact ⟨rfl, rfl⟩
        · by_cases hb : 57 < Sw.gb l k
          · have HD := HBAD.out k hlt (.inr hb)
            obtain ⟨g, hg⟩ : ∃ g, g = Sw.gb l k := ⟨_, rfl⟩
            rw [← hg] at hix ha hb
            have hda : decide ((g : Int) < 48) = false := by rw [decide_eq_false_iff_not]; omega
            have hdb : decide ((57 : Int) < (g : Int)) = true := by rw [decide_eq_true_eq]; omega
            subst HD
            clear hg ha hb hm HIN HBAD hg255
            go_wp2_with fail
            go_ret
            exact ⟨rfl, rfl⟩
          · have HS := Lib.hid (Sw.dgS_yes hm (by omega) (by omega))
            obtain ⟨g, hg⟩ : ∃ g, g = Sw.gb l k := ⟨_, rfl⟩
            rw [← hg] at hix ha hb HS hg255
            obtain ⟨d, hd⟩ : ∃ d, g = 48 + d := ⟨g - 48, by omega⟩
            subst hd
            rw [Nat.add_sub_cancel_left] at HS
            have hcst : (((48 + d : Nat) : Int)) = 48 + (d : Int) := by omega
            rw [hcst] at hix
            have hd9 : d ≤ 9 := by omega
            have hda : decide ((48 : Int) + (d : Int) < 48) = false := by rw [decide_eq_false_iff_not]; omega
            have hdb : decide ((57 : Int) < (48 : Int) + (d : Int)) = false := by rw [decide_eq_false_iff_not]; omega
            have hw8 : IntKind.u8.wrap ((48 : Int) + (d : Int) - 48) = (d : Int) := by rw [IntKind.wrap_u8]; omega
            have hw9 : IntKind.i64.wrap (d : Int) = (d : Int) := IntWalk.i64_in _ (by omega)
            have HK : Hid (k + 1 ≤ l.length) := hlt
            have hk4 : k ≤ 4 := Nat.le_trans hk H2.out
            clear hg ha hb hm hcst HIN HBAD hg255
            go_wp2_with fail
            go_roundw
            case rel => exact ⟨k + 1, 10 * m + d, HK.out, by go_num, by go_num, HS.out, by trivial⟩
            case measure => simp [intOf]; omega
      · have e : k = l.length := by omega
        have HD := HIN.out m (by rw [← e]; exact hm)
        have hdx : decide ((k : Int) < (l.length : Int)) = false := by rw [decide_eq_false_iff_not]; omega
        subst HD
        clear hm e HIN HBAD hk
        go_wp2_with fail
        go_ret
        exact ⟨rfl, rfl⟩
  · clear h1 h2
    go_wp2_with fail
    go_loopw [3, 4] (fun n i wr => ∃ k m : Nat, k ≤ l.length ∧ i = .int .i64 k ∧ n = .int .i64 m ∧ Sw.dgS l k = some m ∧ wr = w) (fun _ i _ => (l.length - intOf i).toNat)
    case atStart => exact ⟨0, 0, Nat.zero_le _, rfl, rfl, rfl, rfl⟩
    case round =>
      obtain ⟨k, m, hk, rfl, rfl, hm, rfl⟩ := hrel
      have hm4 := dgS_le4 (Nat.le_trans hk H2.out) hm
      by_cases hlt : k < l.length
      · have hdx : decide ((k : Int) < (l.length : Int)) = true := by rw [decide_eq_true_eq]; omega
        have hix := HIA.out k hlt k rfl
        have hg255 := Sw.gb_255 l k
        by_cases ha : Sw.gb l k < 48
        · have HD := HBAD.out k hlt (.inl ha)
          obtain ⟨g, hg⟩ : ∃ g, g = Sw.gb l k := ⟨_, rfl⟩
          rw [← hg] at hix ha
          have hda : decide ((g : Int) < 48) = true := by rw [decide_eq_true_eq]; omega
          subst HD
          clear hg ha hm HIN HBAD hg255
          go_wp2_with fail
          go_ret
          exact ⟨rfl, rfl⟩
        · by_cases hb : 57 < Sw.gb l k
          · have HD := HBAD.out k hlt (.inr hb)
            obtain ⟨g, hg⟩ : ∃ g, g = Sw.gb l k := ⟨_, rfl⟩
            rw [← hg] at hix ha hb
            have hda : decide ((g : Int) < 48) = false := by rw [decide_eq_false_iff_not]; omega
            have hdb : decide ((57 : Int) < (g : Int)) = true := by rw [decide_eq_true_eq]; omega
            subst HD
            clear hg ha hb hm HIN HBAD hg255
            go_wp2_with fail
            go_ret
            exact ⟨rfl, rfl⟩
          · have HS := Lib.hid (Sw.dgS_yes hm (by omega) (by omega))
            obtain ⟨g, hg⟩ : ∃ g, g = Sw.gb l k := ⟨_, rfl⟩
            rw [← hg] at hix ha hb HS hg255
            obtain ⟨d, hd⟩ : ∃ d, g = 48 + d := ⟨g - 48, by omega⟩
            subst hd
            rw [Nat.add_sub_cancel_left] at HS
            have hcst : (((48 + d : Nat) : Int)) = 48 + (d : Int) := by omega
            rw [hcst] at hix
            have hd9 : d ≤ 9 := by omega
            have hda : decide ((48 : Int) + (d : Int) < 48) = false := by rw [decide_eq_false_iff_not]; omega
            have hdb : decide ((57 : Int) < (48 : Int) + (d : Int)) = false := by rw [decide_eq_false_iff_not]; omega
            have hw8 : IntKind.u8.wrap ((48 : Int) + (d : Int) - 48) = (d : Int) := by rw [IntKind.wrap_u8]; omega
            have hw9 : IntKind.i64.wrap (d : Int) = (d : Int) := IntWalk.i64_in _ (by omega)
            have HK : Hid (k + 1 ≤ l.length) := hlt
            have hk4 : k ≤ 4 := Nat.le_trans hk H2.out
            clear hg ha hb hm hcst HIN HBAD hg255
            go_wp2_with fail
            go_roundw
            case rel => exact ⟨k + 1, 10 * m + d, HK.out, by go_num, by go_num, HS.out, by trivial⟩
            case measure => simp [intOf]; omega
      · have e : k = l.length := by omega
        have HD := HIN.out m (by rw [← e]; exact hm)
        have hdx : decide ((k : Int) < (l.length : Int)) = false := by rw [decide_eq_false_iff_not]; omega
        subst HD
        clear hm e HIN HBAD hk
        go_wp2_with fail
        go_ret
        exact ⟨rfl, rfl⟩
theorem l1Digits (l : List UInt8) (hl : l.length ≤ 1099511627776) (w : World) : Calls Tryd.prog 30 #[.string ⟨l.toArray⟩] w (DigPost w l) := by
  by_cases h1 : 1 ≤ l.length
  · by_cases h2 : l.length ≤ 4
    · by_cases h3 : l.length = 1
      · exact dig_in l w h1 h2 (.inl h3)
      · by_cases h4 : Sw.gb l 0 = 48
        · exact dig_out2 l w (by omega) h2 h4
        · exact dig_in l w h1 h2 (.inr ⟨by omega, h4⟩)
    · exact dig_out1 l hl w (fun q => h2 q.2)
  · exact dig_out1 l hl w (fun q => h1 q.1)
end Go.Proofs.YtmghnfadgnolpaaDoor

