/- FnPartOf: parts are closed. No conditions. -/
import Derived.Test.YtlfigdpgdkbknaaLw
import Derived.Test.YtlfigdpgdkbknaaLb
import Derived.Test.YtlfigdpgdkbknaaDpP
import Derived.Test.YtlfigdpgdkbknaaMath7
import Derived.Deep.RegionHeld3
import Derived.Deep.DeepCutAuto
namespace Go.Proofs.Ytlfigdpgdkbknaa
open Go.ChangeShapes Go.WideShapes Go.ChangeAt Go.RowKit
set_option maxHeartbeats 2000000 in
theorem lawPartOf (A : Option Addr) (n c : Nat) (hm : n ≤ maxLen) (hc : n ≤ c) (w : World) (hB : RdB w w.heap.size A n) :
    Calls Try.prog 3 #[.slice A n c] w fun e w' => e = .returned (.bool true) ∧ Below w.heap.size w w' := by
  unfold maxLen at hm
  by_cases hlen : (n : Int) ≤ 1048576
  · go_enter Try.func3, Try.ntmps3
    go_wp2_with fail
    refine (drawPartOf A n c (by omega) hc _ hB).mono ?_
    rintro e w1 ⟨A1, c1, l, s, rfl, h10, hr, hb⟩
    have HL := Lib.hid (Lw.start (c1 := c1) hr hb 25)
    clear hr hb
    rcases Sw.ptB_cases l s with hv | ⟨G, p, rfl, hG, rfl, hp⟩
    · have hV := Sw.vPart_no hv
      have hI := fun W => implPartOf l A1 c1 s (by omega) W
      have hS := fun W => specPartOf l A1 c1 s (by omega) W
      rw [hV] at hI hS
      clear hV
      obtain ⟨_, hcb, hzb, hrb⟩ := HL.out
      go_wp2_with fail
      refine (hI _ hrb).mono ?_
      rintro e w15 ⟨rfl, hb15⟩
      have HL := Lib.hid (HL.out.next hb15)
      clear hcb hzb hrb hb15
      obtain ⟨_, hcb, hzb, hrb⟩ := HL.out
      go_wp2_with fail
      refine (hS _ hrb).mono ?_
      rintro e w16 ⟨rfl, hb16⟩
      have HL := Lib.hid (HL.out.next hb16)
      clear hcb hzb hrb hb16
      obtain ⟨_, hcb, hzb, hrb⟩ := HL.out
      go_wp2_with fail
      refine (alive _).mono ?_
      rintro e w17 ⟨rfl, hb17⟩
      have HL := Lib.hid (HL.out.next hb17)
      clear hcb hzb hrb hb17
      obtain ⟨_, hcb, hzb, hrb⟩ := HL.out
      go_wp2_with fail
      go_ret
      exact ⟨rfl, HL.out.1⟩
    · obtain ⟨ad, rfl, hL⟩ := HL.out.valid hG
      have HL := Lib.hid hL
      have hn9 := hG.le
      have hn1 := hG.pos
      clear hL
      rw [Sw.toI_len] at HL h10 ⊢
      have hI := fun W h => implPartG G hG ad c1 W h hp
      have hS := fun W h => specPartOf (Sw.toI G) (some ad) c1 (p : Nat) (by rw [Sw.toI_len]; omega) W h
      rw [Sw.vPart_yes hG hp, Sw.toI_len] at hS
      have hXl := Sw.pt_lt hG hp
      have hYl := Sw.bes_lt hG (Sw.pt G p)
      have hB := fun W h => implBesG G hG ad c1 W h hXl
      have hXY : Sw.bes G (Sw.pt G p) &&& Sw.pt G p = Sw.bes G (Sw.pt G p) := Sw.sub_and (Sw.pt_closed hG hp)
      have hbo := fun W => both (Sw.bes G (Sw.pt G p)) (Sw.pt G p) (lt40 hn9 hYl) (lt40 hn9 hXl) W
      rw [hXY] at hbo
      have hbip : (Sw.pt G p : Int) / 2 ^ p % 2 = 1 := by rw [shr_nat]; have := Sw.bit_one.2 (Sw.pt_self hG hp); unfold Sw.bit at this; omega
      have h0p := shr_nonneg (Sw.pt G p) p
      have HSM : Hid (∀ k, k < G.length → (Sw.pt G p).testBit k = true → ∀ W, RdG W W.heap.size ad G → Calls Try.prog 10 #[.agg #[.slice (some ad) G.length c1], .int .i64 k] W fun e w' => e = .returned (.int .i64 (Sw.pt G p : Nat)) ∧ Below W.heap.size W w') := by
        intro k hk hb W h
        have q := implPartG G hG ad c1 W h hk
        rw [Sw.pt_same hG hp hb] at q; exact q
      have hX9 := Nat.lt_of_lt_of_le hXl (Sw.pow_le9 hn9)
      have hY9 := Nat.lt_of_lt_of_le hYl (Sw.pow_le9 hn9)
      obtain ⟨Y, hY⟩ : ∃ Y, Y = Sw.bes G (Sw.pt G p) := ⟨_, rfl⟩
      rw [← hY] at hB hbo hY9
      obtain ⟨X, hX⟩ : ∃ X, X = Sw.pt G p := ⟨_, rfl⟩
      rw [← hX] at hI hS hX9 hbip h0p HSM hbo hB
      clear hX hY hXY hXl hYl
      obtain ⟨_, hcb, hzb, hrb⟩ := HL.out
      go_wp2_with fail
      refine (hI _ hrb).mono ?_
      rintro e w18 ⟨rfl, hb18⟩
      have HL := Lib.hid (HL.out.next hb18)
      clear hcb hzb hrb hb18
      obtain ⟨_, hcb, hzb, hrb⟩ := HL.out
      go_wp2_with fail
      refine (hS _ hrb.toI).mono ?_
      rintro e w19 ⟨rfl, hb19⟩
      have HL := Lib.hid (HL.out.next hb19)
      clear hcb hzb hrb hb19
      obtain ⟨_, hcb, hzb, hrb⟩ := HL.out
      go_wp2_with fail
      refine (hB _ hrb).mono ?_
      rintro e w20 ⟨rfl, hb20⟩
      have HL := Lib.hid (HL.out.next hb20)
      clear hcb hzb hrb hb20
      obtain ⟨_, hcb, hzb, hrb⟩ := HL.out
      go_wp2_with fail
      go_loopw [7] (fun i wr => ∃ k : Nat, k ≤ G.length ∧ i = .int .i64 k ∧ Lg w wr w1.heap.size ad c1 G) (fun i _ => (G.length - intOf i).toNat)
      case atStart => exact ⟨0, Nat.zero_le _, rfl, HL.out⟩
      case round =>
        obtain ⟨k, hk, rfl, hL⟩ := hrel
        have HL := Lib.hid hL
        clear hL hcb hzb hrb
        obtain ⟨_, hcb, hzb, hrb⟩ := HL.out
        by_cases hlt : k < G.length
        · have hd : decide ((k : Int) < (G.length : Int)) = true := by rw [decide_eq_true_eq]; omega
          have h0k := shr_nonneg X k
          by_cases hbt : X.testBit k = true
          · have hbi : (X : Int) / 2 ^ k % 2 = 1 := by rw [shr_nat]; have := Sw.bit_one.2 hbt; unfold Sw.bit at this; omega
            have hP := HSM.out k hlt hbt
            clear hbt
            go_wp2_with fail
            refine (hP _ hrb).mono ?_
            rintro e w8 ⟨rfl, hb8⟩
            have HL := Lib.hid (HL.out.next hb8)
            clear hcb hzb hrb hb8
            obtain ⟨_, hcb, hzb, hrb⟩ := HL.out
            go_wp2_with fail
            go_roundw
            case rel => exact ⟨k + 1, by omega, by go_num, HL.out⟩
            case measure => simp [intOf]; omega
          · simp only [Bool.not_eq_true] at hbt
            have hbi : (X : Int) / 2 ^ k % 2 = 0 := by rw [shr_nat]; have := Sw.bit_zero.2 hbt; unfold Sw.bit at this; omega
            clear hbt
            go_wp2_with fail
            go_roundw
            case rel => exact ⟨k + 1, by omega, by go_num, HL.out⟩
            case measure => simp [intOf]; omega
        · have hkn : k = G.length := by omega
          subst hkn
          have hd : decide ((G.length : Int) < (G.length : Int)) = false := by rw [decide_eq_false_iff_not]; omega
          go_wp2_with fail
          refine (hbo _).mono ?_
          rintro e w' ⟨rfl, rfl⟩
          go_wp2_with fail
          go_ret
          exact ⟨rfl, HL.out.1⟩
  · go_enter Try.func3, Try.ntmps3
    go_wp2_with fail
    go_ret
    exact ⟨rfl, Below.refl _ _⟩
namespace rowPartOf
theorem contract (H : Type) (enc : TypeId × Value → H) (W : World) (base : Nat) (args : Array Value) (ds gs : List (DataW H)) (before : List MemPlace)
    (hval : ∀ (j : Nat) t v, Try.f3.params[j]? = some t → args[j]? = some v → Value.okWide Try.prog W .any base t v)
    (hW : DataW.Whole enc Try.prog Try.f3.params.toList Rows.fnPartOfSpec.vars false W args.toList ds gs before) :
    Calls Try.prog 3 args W fun e W' => ∃ v, e = .returned v ∧ Rows.fnPartOfSpec.post enc Try.prog Try.f3 false true false false W args v W' := by
  have hW' := hW
  obtain ⟨p, q, hA0, hV, rfl, _, _⟩ := hW
  obtain ⟨rfl, rfl⟩ := trodVars_none hV
  simp only [List.append_nil] at hW'
  have hlt : ∀ x ∈ p, x.block < W.heap.size := fun x hx => hW'.lt x hx
  have hA : DataW.TrodAll enc Try.prog W 0 (fun _ => true) true Try.f3.params.toList args.toList ds p := hA0
  rw [Try.params3] at hA hval
  obtain ⟨v0, vs0, d0, ds0, p0, q0, hargs, rfl, rfl, h0, r0⟩ := trodAll_cons hA
  obtain ⟨rfl, rfl, rfl⟩ := trodAll_nil r0
  obtain rfl : args = #[v0] := by cases args; simp_all
  obtain ⟨A0, n0, c0, rfl, m0, k0, g0⟩ := open_bytes (hval 0 _ v0 rfl rfl) h0 (fun x hx => hlt x (by simp [hx]))
  refine (lawPartOf A0 n0 c0 m0 k0 W g0).mono fun e W' ⟨he, hg⟩ => ?_
  subst he
  exact ⟨_, rfl, post_true rfl (by kernel_rfl) rfl (by kernel_rfl) hW' hA0 hg⟩
set_option maxRecDepth 100000 in
theorem lifted (os : Os) (started : os.Started) (H : Type) (enc : TypeId × Value → H) :
    ReturnsInHanded {} Try.checked os 3 .any (Rows.fnPartOfSpec.pre6 enc Try.prog Try.f3 Rows.fnPartOfRow.domain false) (Rows.fnPartOfSpec.post enc Try.prog Try.f3 false true false false) := by
  refine returnsInHanded_of_change (C := Try.checked) own_knob started (by kernel_rfl) Try.func3
    (ChangeSpec.witness6 (enc := enc) (C := Try.checked) false ⟨#[], #[.slice none 0 0], []⟩ 8 (by kernel_rfl) (by kernel_rfl) (by kernel_rfl) (by kernel_rfl)) ?_
  intro W base args ds gs before hval hW _ _
  exact contract H enc W base args ds gs before hval hW
end rowPartOf
theorem PartOf_holds : Rows.FnPartOfSaid :=
  OpenClaim.holds_of_wide 3 Try.f3 rfl rfl rfl rfl rfl rfl rfl ⟨rfl, rfl, rfl, rfl, rfl⟩ rfl rfl rfl rfl rfl (by kernel_rfl) Try.func3 (by kernel_rfl)
    (of_decide_eq_true (by kernel_rfl)) (by unfold Func.isWrapper; first | (rw [if_pos (by decide +kernel)]; kernel_rfl) | (rw [if_neg (by decide +kernel)]; exact ⟨rfl, rfl⟩))
    (fun os started H enc _ => rowPartOf.lifted os started H enc)
#print axioms PartOf_holds
end Go.Proofs.Ytlfigdpgdkbknaa

