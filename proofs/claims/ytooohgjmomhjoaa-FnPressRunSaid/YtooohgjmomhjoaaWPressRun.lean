/- FnPressRun: only who was pressed an odd number of times counts. No conditions. -/
import Derived.Test.YtooohgjmomhjoaaLw
import Derived.Test.YtooohgjmomhjoaaRun
import Derived.Test.YtooohgjmomhjoaaDpR
import Derived.Test.YtooohgjmomhjoaaMath9
import Derived.Deep.RegionHeld3
import Derived.Deep.DeepCutAuto
namespace Go.Proofs.Ytooohgjmomhjoaa
open Go.ChangeShapes Go.WideShapes Go.ChangeAt Go.RowKit
theorem run_cases (l : List Int) (s : Int) (P : List Int) : Sw.vRun l s P = -1 ∨ ∃ (G : List Nat) (S : Nat), l = Sw.toI G ∧ Sw.GVN G ∧ s = (S : Int) ∧ S < 2 ^ G.length ∧ P.length ≤ 40 ∧ Sw.run G S P ≠ -1 ∧ Sw.vRun (Sw.toI G) (S : Int) P = ((S ^^^ Sw.prs G (Sw.oddK P P.length) : Nat) : Int) := by
  rcases Sw.svB_cases l s with hv | ⟨G, S, rfl, hG, rfl, hS⟩
  · exact .inl (Sw.vRun_no1 hv)
  by_cases h40 : P.length ≤ 40
  · have e := Sw.vRun_yes hG hS h40
    by_cases hr : Sw.run G S P = -1
    · exact .inl (e.trans hr)
    · exact .inr ⟨G, S, rfl, hG, rfl, hS, h40, hr, e.trans (Sw.run_law hr)⟩
  · exact .inl (Sw.vRun_no2 (by omega))
set_option maxHeartbeats 4000000 in
theorem lawPressRun (A : Option Addr) (n c : Nat) (hm : n ≤ maxLen) (hc : n ≤ c) (w : World) (hB : RdB w w.heap.size A n) :
    Calls Try.prog 3 #[.slice A n c] w fun e w' => e = .returned (.bool true) ∧ Below w.heap.size w w' := by
  unfold maxLen at hm
  by_cases hlen : (n : Int) ≤ 1048576
  · go_enter Try.func3, Try.ntmps3
    go_wp2_with fail
    refine (drawPressRun A n c (by omega) hc _ hB).mono ?_
    rintro e w1 ⟨A1, A2, c1, c2, l, P, s, rfl, h10, h41, hr, hrP, hb⟩
    have HL := Lib.hid (Lw.start (c1 := c1) hr hb 25)
    have HP := Lib.hid (hrP.at_ (below1 (.cells #[.slice A1 l.length c1] 25)))
    clear hr hb hrP
    rcases run_cases l s P with hV | ⟨G, S, rfl, hG, rfl, hS0, hP40, hrun, hV⟩
    · have hI := fun W h => implPressRun l P A1 A2 c1 c2 s (by omega) (by omega) W h
      have hS := fun W h => specPressRun l P A1 A2 c1 c2 s (by omega) (by omega) W h
      rw [hV] at hI hS
      clear hV
      obtain ⟨_, hcb, hzb, hrb⟩ := HL.out
      have hrp := HP.out
      go_wp2_with fail
      refine (hI _ hrb hrp).mono ?_
      rintro e w21 ⟨rfl, hb21⟩
      have HL := Lib.hid (HL.out.next hb21)
      have HP := Lib.hid (RdI.at_ hrp hb21)
      clear hcb hzb hrb hrp hb21
      obtain ⟨_, hcb, hzb, hrb⟩ := HL.out
      have hrp := HP.out
      go_wp2_with fail
      refine (hS _ hrb hrp).mono ?_
      rintro e w22 ⟨rfl, hb22⟩
      have HL := Lib.hid (HL.out.next hb22)
      have HP := Lib.hid (RdI.at_ hrp hb22)
      clear hcb hzb hrb hrp hb22
      obtain ⟨_, hcb, hzb, hrb⟩ := HL.out
      go_wp2_with fail
      refine (alive _).mono ?_
      rintro e w15 ⟨rfl, hb15⟩
      have HL := Lib.hid (HL.out.next hb15)
      clear hcb hzb hrb hb15
      obtain ⟨_, hcb, hzb, hrb⟩ := HL.out
      go_wp2_with fail
      go_ret
      exact ⟨rfl, HL.out.1⟩
    · obtain ⟨ad, rfl, hL⟩ := HL.out.valid hG
      have HL := Lib.hid hL
      have hn9 := hG.le
      have hn1 := hG.pos
      clear hL
      rw [Sw.toI_len] at HL h10 ⊢
      rw [Sw.toI_len] at HP
      have hI := fun W h => implPressRun (Sw.toI G) P (some ad) A2 c1 c2 S (by rw [Sw.toI_len]; omega) (by omega) W h
      have hS := fun W h => specPressRun (Sw.toI G) P (some ad) A2 c1 c2 S (by rw [Sw.toI_len]; omega) (by omega) W h
      rw [hV, Sw.toI_len] at hI hS
      have hPt := Lib.hid (fun k hk => Sw.run_points hrun (k := k) hk)
      have hOl := Lib.hid (fun k hk => Sw.odd_lt hrun k hk)
      have hO9 := hOl.out P.length (Nat.le_refl _)
      have hpl : Sw.prs G (Sw.oddK P P.length) < 2 ^ G.length := Sw.prs_lt hG _
      have hPS := fun W h => implPressSet (Sw.toI G) (some ad) c1 (Sw.oddK P P.length : Nat) (by rw [Sw.toI_len]; omega) W h
      rw [Sw.toI_len, Sw.vPress_yes hG hO9] at hPS
      have hOt := fun W => other S (Sw.prs G (Sw.oddK P P.length)) (lt40 hn9 hS0) (lt40 hn9 hpl) W
      obtain ⟨T, hT⟩ : ∃ T, T = S ^^^ Sw.prs G (Sw.oddK P P.length) := ⟨_, rfl⟩
      rw [← hT] at hI hS hOt
      have HPS := Lib.hid hPS
      have HOT := Lib.hid hOt
      clear hV hrun hT hPS hOt hpl hO9
      obtain ⟨_, hcb, hzb, hrb⟩ := HL.out
      have hrp := HP.out
      go_wp2_with fail
      refine (hI _ hrb.toI hrp).mono ?_
      rintro e w23 ⟨rfl, hb23⟩
      have HL := Lib.hid (HL.out.next hb23)
      have HP := Lib.hid (RdI.at_ hrp hb23)
      clear hcb hzb hrb hrp hb23
      obtain ⟨_, hcb, hzb, hrb⟩ := HL.out
      have hrp := HP.out
      go_wp2_with fail
      refine (hS _ hrb.toI hrp).mono ?_
      rintro e w24 ⟨rfl, hb24⟩
      have HL := Lib.hid (HL.out.next hb24)
      have HP := Lib.hid (RdI.at_ hrp hb24)
      clear hcb hzb hrb hrp hb24
      clear hI hS
      obtain ⟨_, hcb, hzb, hrb⟩ := HL.out
      go_wp2_with fail
      go_loopw [7, 8] (fun q i wr => ∃ k U : Nat, k ≤ P.length ∧ i = .int .i64 k ∧ q = .int .i64 U ∧ U = Sw.oddK P k ∧ Lg w wr w1.heap.size ad c1 G ∧ RdI wr wr.heap.size A2 P) (fun _ i _ => (P.length - intOf i).toNat)
      case atStart => exact ⟨0, 0, Nat.zero_le _, rfl, rfl, rfl, HL.out, HP.out⟩
      case round =>
        obtain ⟨k, U, hk, rfl, rfl, hU, hL, hrp⟩ := hrel
        have HL := Lib.hid hL
        have HU := Lib.hid hU
        have HP := Lib.hid hrp
        clear hL hU hrp hcb hzb hrb
        obtain ⟨_, hcb, hzb, hrb⟩ := HL.out
        by_cases hlt : k < P.length
        · have hd : decide ((k : Int) < (P.length : Int)) = true := by rw [decide_eq_true_eq]; omega
          obtain ⟨ad2, e2, _, hck⟩ := HP.out k hlt
          obtain ⟨hq0, hq1⟩ := hPt.out k hlt
          obtain ⟨q, hq⟩ := Int.eq_ofNat_of_zero_le hq0
          rw [hq] at hck hq0 hq1
          subst e2
          have hU9 : U < 1099511627776 := by have h := hOl.out k (by omega); rw [← HU.out] at h; exact lt40 hn9 h
          have h29 : 2 ^ q < 1099511627776 := by have := Sw.pow_le9 (show q ≤ 9 by omega); omega
          have hot := fun W => other U (2 ^ q) hU9 h29 W
          have hp1 := pow1 q
          have hp9 := pow9 (show q ≤ 9 by omega)
          have hw1 : IntKind.i64.wrap ((2 : Int) ^ q) = 2 ^ q := IntWalk.i64_in _ (by omega)
          have HE : Hid (Sw.oddK P (k + 1) = U ^^^ 2 ^ q) := by show _ = _; rw [Sw.oddK_succ, hq, ← HU.out]; rfl
          rw [← pow_nat] at hot
          have hk0 : (0 : Int) ≤ (k : Int) := by omega
          have hk1 : (k : Int) < (P.length : Int) := by omega
          clear hq h29
          go_wp2_with fail
          refine (hot _).mono ?_
          rintro e w' ⟨rfl, rfl⟩
          go_wp2_with fail
          go_roundw
          case rel => exact ⟨k + 1, _, by omega, by go_num, rfl, HE.out.symm, HL.out, HP.out⟩
          case measure => simp [intOf]; omega
        · have hkn : k = P.length := by omega
          subst hkn
          have hd : decide ((P.length : Int) < (P.length : Int)) = false := by rw [decide_eq_false_iff_not]; omega
          have hps := HPS.out
          rw [← HU.out] at hps
          have hot := HOT.out
          rw [← HU.out] at hot
          clear hPt hOl
          go_wp2_with fail
          refine (hps _ hrb.toI).mono ?_
          rintro e w8 ⟨rfl, hb8⟩
          have HL := Lib.hid (HL.out.next hb8)
          clear hcb hzb hrb hb8
          go_wp2_with fail
          refine (hot _).mono ?_
          rintro e w' ⟨rfl, rfl⟩
          go_wp2_with fail
          go_ret
          exact ⟨rfl, HL.out.1⟩
  · go_enter Try.func3, Try.ntmps3
    go_wp2_with fail
    go_ret
    exact ⟨rfl, Below.refl _ _⟩
namespace rowPressRun
theorem contract (H : Type) (enc : TypeId × Value → H) (W : World) (base : Nat) (args : Array Value) (ds gs : List (DataW H)) (before : List MemPlace)
    (hval : ∀ (j : Nat) t v, Try.f3.params[j]? = some t → args[j]? = some v → Value.okWide Try.prog W .any base t v)
    (hW : DataW.Whole enc Try.prog Try.f3.params.toList Rows.fnPressRunSpec.vars false W args.toList ds gs before) :
    Calls Try.prog 3 args W fun e W' => ∃ v, e = .returned v ∧ Rows.fnPressRunSpec.post enc Try.prog Try.f3 false true false false W args v W' := by
  have hW' := hW
  obtain ⟨p, q, hA0, hV, rfl, _, _⟩ := hW
  obtain ⟨rfl, rfl⟩ := trodVars_none hV
  simp only [List.append_nil] at hW'
  have hlt : ∀ x ∈ p, x.block < W.heap.size := fun x hx => hW'.lt x hx
  have hA : DataW.TrodAll enc Try.prog W 0 (fun _ => true) true Try.f3.params.toList args.toList ds p := hA0
  rw [Try.params3] at hA hval
  obtain ⟨v0, vs0, d0, ds0, p0, q0, hargs, rfl, rfl, h0, r0⟩ := trodAll_cons hA
  obtain ⟨rfl, rfl, rfl⟩ := trodAll_nil r0
  obtain rfl : args = #[v0] := by cases args; simp_all
  obtain ⟨A0, n0, c0, rfl, m0, k0, g0⟩ := open_bytes (hval 0 _ v0 rfl rfl) h0 (fun x hx => hlt x (by simp [hx]))
  refine (lawPressRun A0 n0 c0 m0 k0 W g0).mono fun e W' ⟨he, hg⟩ => ?_
  subst he
  exact ⟨_, rfl, post_true rfl (by kernel_rfl) rfl (by kernel_rfl) hW' hA0 hg⟩
set_option maxRecDepth 100000 in
theorem lifted (os : Os) (started : os.Started) (H : Type) (enc : TypeId × Value → H) :
    ReturnsInHanded {} Try.checked os 3 .any (Rows.fnPressRunSpec.pre6 enc Try.prog Try.f3 Rows.fnPressRunRow.domain false) (Rows.fnPressRunSpec.post enc Try.prog Try.f3 false true false false) := by
  refine returnsInHanded_of_change (C := Try.checked) own_knob started (by kernel_rfl) Try.func3
    (ChangeSpec.witness6 (enc := enc) (C := Try.checked) false ⟨#[], #[.slice none 0 0], []⟩ 8 (by kernel_rfl) (by kernel_rfl) (by kernel_rfl) (by kernel_rfl)) ?_
  intro W base args ds gs before hval hW _ _
  exact contract H enc W base args ds gs before hval hW
end rowPressRun
theorem PressRun_holds : Rows.FnPressRunSaid :=
  OpenClaim.holds_of_wide 3 Try.f3 rfl rfl rfl rfl rfl rfl rfl ⟨rfl, rfl, rfl, rfl, rfl⟩ rfl rfl rfl rfl rfl (by kernel_rfl) Try.func3 (by kernel_rfl)
    (of_decide_eq_true (by kernel_rfl)) (by unfold Func.isWrapper; first | (rw [if_pos (by decide +kernel)]; kernel_rfl) | (rw [if_neg (by decide +kernel)]; exact ⟨rfl, rfl⟩))
    (fun os started H enc _ => rowPressRun.lifted os started H enc)
#print axioms PressRun_holds
end Go.Proofs.Ytooohgjmomhjoaa

