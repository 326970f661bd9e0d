/- FnPressSet: sums of presses are sums of changes. No conditions. -/
import Derived.Test.YtakgcdiofpijmaaLw
import Derived.Test.YtakgcdiofpijmaaPress
import Derived.Test.YtakgcdiofpijmaaDrS2
import Derived.Test.YtakgcdiofpijmaaMath9
import Derived.Deep.RegionHeld3
import Derived.Deep.DeepCutAuto
namespace Go.Proofs.Ytakgcdiofpijmaa
open Go.ChangeShapes Go.WideShapes Go.ChangeAt Go.RowKit
set_option maxHeartbeats 2000000 in
theorem lawPressSet (A B : Option Addr) (n c nb cb : Nat) (hm : n ≤ maxLen) (hc : n ≤ c) (hmb : nb ≤ maxLen) (hcb0 : nb ≤ cb) (w : World) (hB : RdB w w.heap.size A n) (hB2 : RdB w w.heap.size B nb) :
    Calls Try.prog 7 #[.slice A n c, .slice B nb cb] w fun e w' => e = .returned (.bool true) ∧ Below w.heap.size w w' := by
  unfold maxLen at hm hmb
  clear hB2
  by_cases hlen : (n : Int) ≤ 1048576
  · by_cases hlenb : (nb : Int) ≤ 1048576
    · go_enter Try.func7, Try.ntmps7
      go_wp2_with fail
      refine (drawPressSet A n c (by omega) hc _ hB).mono ?_
      rintro e w1 ⟨A1, c1, l, s, rfl, h10, hr, hb⟩
      have HL := Lib.hid (Lw.start (c1 := c1) hr hb 27)
      clear hr hb
      rcases Sw.svB_cases l s with hv | ⟨G, S, rfl, hG, rfl, hS⟩
      · have hV := Sw.vPress_no hv
        have hI := fun W => implPressSet l A1 c1 s (by omega) W
        have hS := fun W => specPressSet l A1 c1 s (by omega) W
        rw [hV] at hI hS
        clear hV
        obtain ⟨_, hcb, hzb, hrb⟩ := HL.out
        go_wp2_with fail
        refine (hI _ hrb).mono ?_
        rintro e w15 ⟨rfl, hb15⟩
        have HL := Lib.hid (HL.out.next hb15)
        clear hcb hzb hrb hb15
        obtain ⟨_, hcb, hzb, hrb⟩ := HL.out
        go_wp2_with fail
        refine (hS _ hrb).mono ?_
        rintro e w16 ⟨rfl, hb16⟩
        have HL := Lib.hid (HL.out.next hb16)
        clear hcb hzb hrb hb16
        obtain ⟨_, hcb, hzb, hrb⟩ := HL.out
        go_wp2_with fail
        refine (alive _).mono ?_
        rintro e w17 ⟨rfl, hb17⟩
        have HL := Lib.hid (HL.out.next hb17)
        clear hcb hzb hrb hb17
        obtain ⟨_, hcb, hzb, hrb⟩ := HL.out
        go_wp2_with fail
        go_ret
        exact ⟨rfl, HL.out.1⟩
      · obtain ⟨ad, rfl, hL⟩ := HL.out.valid hG
        have HL := Lib.hid hL
        have hn9 := hG.le
        have hn1 := hG.pos
        clear hL
        rw [Sw.toI_len] at HL h10 ⊢
        obtain ⟨N, hN0⟩ : ∃ N, N = 2 ^ G.length := ⟨_, rfl⟩
        have hN : (2 : Int) ^ G.length = (N : Int) := by rw [hN0, pow_nat]
        have h512 : N ≤ 512 := by rw [hN0]; exact Sw.pow_le9 hn9
        have hN1 : 1 ≤ N := by rw [hN0]; exact Nat.two_pow_pos _
        have hNw : IntKind.i64.wrap (N : Int) = (N : Int) := IntWalk.i64_in _ (by omega)
        have HN0 := Lib.hid hN0
        clear hN0
        have hP : Hid (∀ T, T < 2 ^ G.length → ∀ W, RdG W W.heap.size ad G → Calls Try.prog 27 #[.agg #[.slice (some ad) G.length c1], .int .i64 (T : Nat)] W fun e w' => e = .returned (.int .i64 (Sw.prs G T : Nat)) ∧ Below W.heap.size W w') := by
          intro T hT W h
          have q := implPressSet (Sw.toI G) (some ad) c1 (T : Nat) (by rw [Sw.toI_len]; omega) W h.toI
          rw [Sw.vPress_yes hG hT, Sw.toI_len] at q; exact q
        have hS' := fun W h => specPressSet (Sw.toI G) (some ad) c1 (S : Nat) (by rw [Sw.toI_len]; omega) W h
        rw [Sw.vPress_yes hG hS, Sw.toI_len] at hS'
        obtain ⟨T, hT⟩ : ∃ T, T = nb * 11 % N := ⟨_, rfl⟩
        have hTN : T < N := by rw [hT]; exact Nat.mod_lt _ (by omega)
        have hrem : ((nb : Int) * 11).tmod (N : Int) = (T : Int) := by
          rw [hT, Int.tmod_eq_emod_of_nonneg (by omega), show (nb : Int) * 11 = ((nb * 11 : Nat) : Int) by omega]; simp
        have hTl : T < 2 ^ G.length := by rw [← HN0.out]; exact hTN
        have hXl : S ^^^ T < 2 ^ G.length := Nat.xor_lt_two_pow hS hTl
        have hS9 := Nat.lt_of_lt_of_le hS (Sw.pow_le9 hn9)
        have hX9 := Nat.lt_of_lt_of_le hXl (Sw.pow_le9 hn9)
        have hpS := Nat.lt_of_lt_of_le (Sw.prs_lt hG S) (Sw.pow_le9 hn9)
        have hpT := Nat.lt_of_lt_of_le (Sw.prs_lt hG T) (Sw.pow_le9 hn9)
        have hpX := Nat.lt_of_lt_of_le (Sw.prs_lt hG (S ^^^ T)) (Sw.pow_le9 hn9)
        have h0l : 0 < 2 ^ G.length := Nat.two_pow_pos _
        have hI := hP.out S hS
        have hP1 := hP.out (S ^^^ T) hXl
        have hP2 := hP.out T hTl
        have hP0 := hP.out 0 h0l
        rw [Sw.prs_zero] at hP0
        have hO1 := fun W => other S T (by omega) (by omega) W
        have hO2 := fun W => other (Sw.prs G S) (Sw.prs G T) (by omega) (by omega) W
        rw [← Sw.prs_xor] at hO2
        obtain ⟨X, hX⟩ : ∃ X, X = S ^^^ T := ⟨_, rfl⟩
        rw [← hX] at hP1 hO1 hO2 hX9 hpX
        obtain ⟨a1, ha1⟩ : ∃ a, a = Sw.prs G S := ⟨_, rfl⟩
        rw [← ha1] at hI hS' hO2 hpS
        obtain ⟨a2, ha2⟩ : ∃ a, a = Sw.prs G T := ⟨_, rfl⟩
        rw [← ha2] at hP2 hO2 hpT
        obtain ⟨a3, ha3⟩ : ∃ a, a = Sw.prs G X := ⟨_, rfl⟩
        rw [← ha3] at hP1 hO2 hpX
        clear hX ha1 ha2 ha3 hT hTl hXl h0l hP
        obtain ⟨_, hcb, hzb, hrb⟩ := HL.out
        go_wp2_with fail
        refine (hI _ hrb).mono ?_
        rintro e w18 ⟨rfl, hb18⟩
        have HL := Lib.hid (HL.out.next hb18)
        clear hcb hzb hrb hb18
        obtain ⟨_, hcb, hzb, hrb⟩ := HL.out
        go_wp2_with fail
        refine (hS' _ hrb.toI).mono ?_
        rintro e w19 ⟨rfl, hb19⟩
        have HL := Lib.hid (HL.out.next hb19)
        clear hcb hzb hrb hb19
        obtain ⟨_, hcb, hzb, hrb⟩ := HL.out
        have hwm : IntKind.i64.wrap ((nb : Int) * 11) = (nb : Int) * 11 := IntWalk.i64_in _ (by omega)
        have hwp : IntKind.i64.wrap ((2 : Int) ^ G.length) = (N : Int) := by rw [hN, hNw]
        go_wp2_with fail
        go_region_held3 (fun w' => w'.cell? ⟨w1.heap.size, 0, none⟩ = some (.slice (some ad) G.length c1)) (first | exact hcb | exact hS_K1 | exact hS_K2 | exact hS_K3) (first | (have hq := hr_K2; clear hq; go_at_call 27; refine (hP0 _ (by exact hr_K2)).mono ?_; rintro e Y3 ⟨rfl, z3⟩; have K3 := Lib.hid (K2.out.next (by exact z3)); have hS_K3 := K3.out.2.1; have hr_K3 := K3.out.2.2.2) | (have hq := hr_K2; clear hq; go_at_call 34; refine (hO2 _).mono ?_; rintro e w' ⟨rfl, rfl⟩) | (have hq := hr_K1; clear hq; go_at_call 27; refine (hP2 _ (by exact hr_K1)).mono ?_; rintro e Y2 ⟨rfl, z2⟩; have K2 := Lib.hid (K1.out.next (by exact z2)); have hS_K2 := K2.out.2.1; have hr_K2 := K2.out.2.2.2) | (go_at_call 27; refine (hP1 _ (by exact hrb)).mono ?_; rintro e Y1 ⟨rfl, z1⟩; have K1 := Lib.hid (HL.out.next (undrew (by exact z1))); have hS_K1 := K1.out.2.1; have hr_K1 := K1.out.2.2.2) | (go_at_call 34; refine (hO1 _).mono ?_; rintro e w' ⟨rfl, rfl⟩))
        go_wp2_with fail
        go_ret
        exact ⟨rfl, K3.out.1⟩
    · go_enter Try.func7, Try.ntmps7
      go_wp2_with fail
      go_ret
      exact ⟨rfl, Below.refl _ _⟩
  · go_enter Try.func7, Try.ntmps7
    go_wp2_with fail
    go_ret
    exact ⟨rfl, Below.refl _ _⟩
namespace rowPressSet
theorem contract (H : Type) (enc : TypeId × Value → H) (W : World) (base : Nat) (args : Array Value) (ds gs : List (DataW H)) (before : List MemPlace)
    (hval : ∀ (j : Nat) t v, Try.f7.params[j]? = some t → args[j]? = some v → Value.okWide Try.prog W .any base t v)
    (hW : DataW.Whole enc Try.prog Try.f7.params.toList Rows.fnPressSetSpec.vars false W args.toList ds gs before) :
    Calls Try.prog 7 args W fun e W' => ∃ v, e = .returned v ∧ Rows.fnPressSetSpec.post enc Try.prog Try.f7 false true false false W args v W' := by
  have hW' := hW
  obtain ⟨p, q, hA0, hV, rfl, _, _⟩ := hW
  obtain ⟨rfl, rfl⟩ := trodVars_none hV
  simp only [List.append_nil] at hW'
  have hlt : ∀ x ∈ p, x.block < W.heap.size := fun x hx => hW'.lt x hx
  have hA : DataW.TrodAll enc Try.prog W 0 (fun _ => true) true Try.f7.params.toList args.toList ds p := hA0
  rw [Try.params7] at hA hval
  obtain ⟨v0, vs0, d0, ds0, p0, q0, hargs, rfl, rfl, h0, r0⟩ := trodAll_cons hA
  obtain ⟨v1, vs1, d1, ds1, p1, q1, rfl, rfl, rfl, h1, r1⟩ := trodAll_cons r0
  obtain ⟨rfl, rfl, rfl⟩ := trodAll_nil r1
  obtain rfl : args = #[v0, v1] := by cases args; simp_all
  obtain ⟨A0, n0, c0, rfl, m0, k0, g0⟩ := open_bytes (hval 0 _ v0 rfl rfl) h0 (fun x hx => hlt x (by simp [hx]))
  obtain ⟨A1, n1, c1, rfl, m1, k1, g1⟩ := open_bytes (hval 1 _ v1 rfl rfl) h1 (fun x hx => hlt x (by simp [hx]))
  refine (lawPressSet A0 A1 n0 c0 n1 c1 m0 k0 m1 k1 W g0 g1).mono fun e W' ⟨he, hg⟩ => ?_
  subst he
  exact ⟨_, rfl, post_true rfl (by kernel_rfl) rfl (by kernel_rfl) hW' hA0 hg⟩
set_option maxRecDepth 100000 in
theorem lifted (os : Os) (started : os.Started) (H : Type) (enc : TypeId × Value → H) :
    ReturnsInHanded {} Try.checked os 7 .any (Rows.fnPressSetSpec.pre6 enc Try.prog Try.f7 Rows.fnPressSetRow.domain false) (Rows.fnPressSetSpec.post enc Try.prog Try.f7 false true false false) := by
  refine returnsInHanded_of_change (C := Try.checked) own_knob started (by kernel_rfl) Try.func7
    (ChangeSpec.witness6 (enc := enc) (C := Try.checked) false ⟨#[], #[.slice none 0 0, .slice none 0 0], []⟩ 8 (by kernel_rfl) (by kernel_rfl) (by kernel_rfl) (by kernel_rfl)) ?_
  intro W base args ds gs before hval hW _ _
  exact contract H enc W base args ds gs before hval hW
end rowPressSet
theorem PressSet_holds : Rows.FnPressSetSaid :=
  OpenClaim.holds_of_wide 7 Try.f7 rfl rfl rfl rfl rfl rfl rfl ⟨rfl, rfl, rfl, rfl, rfl⟩ rfl rfl rfl rfl rfl (by kernel_rfl) Try.func7 (by kernel_rfl)
    (of_decide_eq_true (by kernel_rfl)) (by unfold Func.isWrapper; first | (rw [if_pos (by decide +kernel)]; kernel_rfl) | (rw [if_neg (by decide +kernel)]; exact ⟨rfl, rfl⟩))
    (fun os started H enc _ => rowPressSet.lifted os started H enc)
#print axioms PressSet_holds
end Go.Proofs.Ytakgcdiofpijmaa

