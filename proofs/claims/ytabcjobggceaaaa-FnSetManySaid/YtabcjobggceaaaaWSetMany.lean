/- FnSetMany: sets and what is not in them are all. No conditions. -/
import Derived.Test.YtabcjobggceaaaaLw
import Derived.Test.YtabcjobggceaaaaLa
import Derived.Deep.RegionHeld3
import Derived.Deep.DeepCutAuto
namespace Go.Proofs.Ytabcjobggceaaaa
open Go.ChangeShapes Go.WideShapes Go.ChangeAt Go.RowKit
set_option maxHeartbeats 2000000 in
theorem lawSetMany (A : Option Addr) (n c : Nat) (hm : n ≤ maxLen) (hc : n ≤ c) (w : World) (hB : RdB w w.heap.size A n) :
    Calls Try.prog 5 #[.slice A n c] w fun e w' => e = .returned (.bool true) ∧ Below w.heap.size w w' := by
  unfold maxLen at hm
  by_cases hlen : (n : Int) ≤ 1048576
  · go_enter Try.func5, Try.ntmps5
    go_wp2_with fail
    refine (drawSetMany A n c (by omega) hc _ hB).mono ?_
    rintro e w1 ⟨A1, c1, l, s, rfl, h10, hr, hb⟩
    have HL := Lib.hid (Lw.start (c1 := c1) hr hb 25)
    clear hr hb
    rcases Sw.svB_cases l s with hv | ⟨G, S, rfl, hG, rfl, hS⟩
    · have hV := Sw.vMany_no hv
      have hI := fun W => implSetMany l A1 c1 s (by omega) W
      have hS := fun W => specSetMany l A1 c1 s (by omega) W
      rw [hV] at hI hS
      clear hV
      obtain ⟨_, hcb, hzb, hrb⟩ := HL.out
      go_wp2_with fail
      refine (hI _ hrb).mono ?_
      rintro e w2 ⟨rfl, hb2⟩
      have HL := Lib.hid (HL.out.next hb2)
      clear hcb hzb hrb hb2
      obtain ⟨_, hcb, hzb, hrb⟩ := HL.out
      go_wp2_with fail
      refine (hS _ hrb).mono ?_
      rintro e w3 ⟨rfl, hb3⟩
      have HL := Lib.hid (HL.out.next hb3)
      clear hcb hzb hrb hb3
      obtain ⟨_, hcb, hzb, hrb⟩ := HL.out
      go_wp2_with fail
      refine (implSV_no l A1 c1 s (by omega) hv _ hrb).mono ?_
      rintro e w4 ⟨rfl, hb4⟩
      have HL := Lib.hid (HL.out.next hb4)
      clear hcb hzb hrb hb4
      obtain ⟨_, hcb, hzb, hrb⟩ := HL.out
      go_wp2_with fail
      refine (alive _).mono ?_
      rintro e w5 ⟨rfl, hb5⟩
      have HL := Lib.hid (HL.out.next hb5)
      clear hcb hzb hrb hb5
      obtain ⟨_, hcb, hzb, hrb⟩ := HL.out
      go_wp2_with fail
      go_ret
      exact ⟨rfl, HL.out.1⟩
    · obtain ⟨ad, rfl, hL⟩ := HL.out.valid hG
      have HL := Lib.hid hL
      have hn9 := hG.le
      have hn1 := hG.pos
      clear hL
      rw [Sw.toI_len] at HL h10 ⊢
      obtain ⟨N, hN0⟩ : ∃ N, N = 2 ^ G.length := ⟨_, rfl⟩
      have hN : (2 : Int) ^ G.length = (N : Int) := by rw [hN0, pow_nat]
      have h512 : N ≤ 512 := by rw [hN0]; exact Sw.pow_le9 hn9
      have hN1 : 1 ≤ N := by rw [hN0]; exact Nat.two_pow_pos _
      have hNw : IntKind.i64.wrap (N : Int) = (N : Int) := IntWalk.i64_in _ (by omega)
      have HN0 := Lib.hid hN0
      clear hN0
      have hRl := Sw.rest_lt G S
      have hSN : S < N := by rw [HN0.out]; exact hS
      have hrk : (N : Int) - 1 - (S : Int) = ((Sw.rest G S : Nat) : Int) := by have := HN0.out; unfold Sw.rest; omega
      have HCR := Lib.hid (Sw.cnt_rest hS (by omega : G.length ≤ 64))
      have hI := fun W h => implManyG G hG ad c1 W h hS
      have hS' := fun W h => specManyG G hG ad c1 W h hS
      have hC2 := fun W h => implManyG G hG ad c1 W h hRl
      have hS40 := lt40 hn9 hS
      have hbt := fun W => bits S hS40 W
      have hcR : Sw.cnt S + Sw.cnt (Sw.rest G S) = G.length := HCR.out
      obtain ⟨R, hR⟩ : ∃ R, R = Sw.rest G S := ⟨_, rfl⟩
      rw [← hR] at hrk hC2 hcR
      obtain ⟨Q, hQ⟩ : ∃ Q, Q = Sw.cnt S := ⟨_, rfl⟩
      rw [← hQ] at hI hS' hbt hcR
      obtain ⟨Z, hZ⟩ : ∃ Z, Z = Sw.cnt R := ⟨_, rfl⟩
      rw [← hZ] at hC2 hcR
      have hw1 : IntKind.i64.wrap ((N : Int) - 1) = (N : Int) - 1 := IntWalk.i64_in _ (by omega)
      have hw2 : IntKind.i64.wrap ((N : Int) - 1 - (S : Int)) = (R : Int) := by rw [IntWalk.i64_in _ (by omega)]; exact hrk
      have hw3 : IntKind.i64.wrap ((Q : Int) + (Z : Int)) = (G.length : Int) := by rw [IntWalk.i64_in _ (by omega)]; omega
      clear hR hQ hZ HCR hRl hS hrk
      obtain ⟨_, hcb, hzb, hrb⟩ := HL.out
      go_wp2_with fail
      refine (hI _ hrb).mono ?_
      rintro e w6 ⟨rfl, hb6⟩
      have HL := Lib.hid (HL.out.next hb6)
      clear hcb hzb hrb hb6
      obtain ⟨_, hcb, hzb, hrb⟩ := HL.out
      go_wp2_with fail
      refine (hS' _ hrb).mono ?_
      rintro e w7 ⟨rfl, hb7⟩
      have HL := Lib.hid (HL.out.next hb7)
      clear hcb hzb hrb hb7
      obtain ⟨_, hcb, hzb, hrb⟩ := HL.out
      go_wp2_with fail
      go_region_held3 (fun w' => w'.cell? ⟨w1.heap.size, 0, none⟩ = some (.slice (some ad) G.length c1)) (first | exact hcb | exact hS1) (first | (go_at_call 17; refine (hC2 _ (by exact hrb)).mono ?_; rintro e W9 ⟨rfl, hb9⟩; have HL9 := Lib.hid (HL.out.next (undrew (by exact hb9))); have hS1 := HL9.out.2.1) | (go_at_call 19; refine (hbt _).mono ?_; rintro e w' ⟨rfl, rfl⟩))
      go_wp2_with fail
      go_ret
      exact ⟨rfl, HL9.out.1⟩
  · go_enter Try.func5, Try.ntmps5
    go_wp2_with fail
    go_ret
    exact ⟨rfl, Below.refl _ _⟩
namespace rowSetMany
theorem contract (H : Type) (enc : TypeId × Value → H) (W : World) (base : Nat) (args : Array Value) (ds gs : List (DataW H)) (before : List MemPlace)
    (hval : ∀ (j : Nat) t v, Try.f5.params[j]? = some t → args[j]? = some v → Value.okWide Try.prog W .any base t v)
    (hW : DataW.Whole enc Try.prog Try.f5.params.toList Rows.fnSetManySpec.vars false W args.toList ds gs before) :
    Calls Try.prog 5 args W fun e W' => ∃ v, e = .returned v ∧ Rows.fnSetManySpec.post enc Try.prog Try.f5 false true false false W args v W' := by
  have hW' := hW
  obtain ⟨p, q, hA0, hV, rfl, _, _⟩ := hW
  obtain ⟨rfl, rfl⟩ := trodVars_none hV
  simp only [List.append_nil] at hW'
  have hlt : ∀ x ∈ p, x.block < W.heap.size := fun x hx => hW'.lt x hx
  have hA : DataW.TrodAll enc Try.prog W 0 (fun _ => true) true Try.f5.params.toList args.toList ds p := hA0
  rw [Try.params5] at hA hval
  obtain ⟨v0, vs0, d0, ds0, p0, q0, hargs, rfl, rfl, h0, r0⟩ := trodAll_cons hA
  obtain ⟨rfl, rfl, rfl⟩ := trodAll_nil r0
  obtain rfl : args = #[v0] := by cases args; simp_all
  obtain ⟨A0, n0, c0, rfl, m0, k0, g0⟩ := open_bytes (hval 0 _ v0 rfl rfl) h0 (fun x hx => hlt x (by simp [hx]))
  refine (lawSetMany A0 n0 c0 m0 k0 W g0).mono fun e W' ⟨he, hg⟩ => ?_
  subst he
  exact ⟨_, rfl, post_true rfl (by kernel_rfl) rfl (by kernel_rfl) hW' hA0 hg⟩
set_option maxRecDepth 100000 in
theorem lifted (os : Os) (started : os.Started) (H : Type) (enc : TypeId × Value → H) :
    ReturnsInHanded {} Try.checked os 5 .any (Rows.fnSetManySpec.pre6 enc Try.prog Try.f5 Rows.fnSetManyRow.domain false) (Rows.fnSetManySpec.post enc Try.prog Try.f5 false true false false) := by
  refine returnsInHanded_of_change (C := Try.checked) own_knob started (by kernel_rfl) Try.func5
    (ChangeSpec.witness6 (enc := enc) (C := Try.checked) false ⟨#[], #[.slice none 0 0], []⟩ 8 (by kernel_rfl) (by kernel_rfl) (by kernel_rfl) (by kernel_rfl)) ?_
  intro W base args ds gs before hval hW _ _
  exact contract H enc W base args ds gs before hval hW
end rowSetMany
theorem SetMany_holds : Rows.FnSetManySaid :=
  OpenClaim.holds_of_wide 5 Try.f5 rfl rfl rfl rfl rfl rfl rfl ⟨rfl, rfl, rfl, rfl, rfl⟩ rfl rfl rfl rfl rfl (by kernel_rfl) Try.func5 (by kernel_rfl)
    (of_decide_eq_true (by kernel_rfl)) (by unfold Func.isWrapper; first | (rw [if_pos (by decide +kernel)]; kernel_rfl) | (rw [if_neg (by decide +kernel)]; exact ⟨rfl, rfl⟩))
    (fun os started H enc _ => rowSetMany.lifted os started H enc)
#print axioms SetMany_holds
end Go.Proofs.Ytabcjobggceaaaa

