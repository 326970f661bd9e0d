/- FnSetValid: sets have points of the graph. No conditions. -/
import Derived.Test.YtabcjobggceaaaaLw
import Derived.Test.YtabcjobggceaaaaLa
import Derived.Deep.RegionHeld3
import Derived.Deep.DeepCutAuto
namespace Go.Proofs.Ytabcjobggceaaaa
open Go.ChangeShapes Go.WideShapes Go.ChangeAt Go.RowKit
set_option maxHeartbeats 2000000 in
theorem lawSetValid (A : Option Addr) (n c : Nat) (hm : n ≤ maxLen) (hc : n ≤ c) (w : World) (hB : RdB w w.heap.size A n) :
    Calls Try.prog 4 #[.slice A n c] w fun e w' => e = .returned (.bool true) ∧ Below w.heap.size w w' := by
  unfold maxLen at hm
  by_cases hlen : (n : Int) ≤ 1048576
  · go_enter Try.func4, Try.ntmps4
    go_wp2_with fail
    refine (drawSetValid A n c (by omega) hc _ hB).mono ?_
    rintro e w1 ⟨A1, c1, l, s, rfl, h10, hr, hb⟩
    have HL := Lib.hid (Lw.start (c1 := c1) hr hb 25)
    clear hr hb
    have hmin : min (l.length : Int) 12 = (l.length : Int) := by omega
    have hp1 := pow1 l.length
    have hp2 : (2 : Int) ^ l.length ≤ 1024 := by
      have h1 : 2 ^ l.length ≤ 2 ^ 10 := Nat.pow_le_pow_right (by decide) h10
      have h2 : ((2 ^ l.length : Nat) : Int) ≤ 1024 := by omega
      simpa using h2
    have hA := fun W => implSetValid l A1 c1 (2 ^ l.length - 1) (by omega) W
    have hM := fun W => implSetValid l A1 c1 (2 ^ l.length) (by omega) W
    have hO := fun W => implSetValid l A1 c1 (-1) (by omega) W
    have hgv := fun W => implGraphValid l A1 c1 (by omega) W
    have hI := fun W => implSetValid l A1 c1 s (by omega) W
    have hS := fun W => specSetValid l A1 c1 s (by omega) W
    rw [svB_all] at hA
    rw [svB_more] at hM
    rw [svB_minus] at hO
    obtain ⟨P, hP⟩ : ∃ P : Int, P = 2 ^ l.length := ⟨_, rfl⟩
    have hPe : (2 : Int) ^ l.length = P := hP.symm
    rw [hPe] at hA hM hp1 hp2
    have hw0 : IntKind.i64.wrap P = P := IntWalk.i64_in _ (by omega)
    have hw1 : IntKind.i64.wrap (P - 1) = P - 1 := IntWalk.i64_in _ (by omega)
    have hw2 : IntKind.i64.wrap (P - 1 + 1) = P := by rw [IntWalk.i64_in _ (by omega)]; omega
    obtain ⟨B1, hB1⟩ : ∃ B, B = Sw.svB l s := ⟨_, rfl⟩
    obtain ⟨B2, hB2⟩ : ∃ B, B = Sw.gvB l := ⟨_, rfl⟩
    rw [← hB1] at hI hS
    rw [← hB2] at hA hgv
    clear hB1 hB2 hP
    obtain ⟨_, hcb, hzb, hrb⟩ := HL.out
    go_wp2_with fail
    refine (hI _ hrb).mono ?_
    rintro e w8 ⟨rfl, hb8⟩
    have HL := Lib.hid (HL.out.next hb8)
    clear hcb hzb hrb hb8
    obtain ⟨_, hcb, hzb, hrb⟩ := HL.out
    go_wp2_with fail
    refine (hS _ hrb).mono ?_
    rintro e w9 ⟨rfl, hb9⟩
    have HL := Lib.hid (HL.out.next hb9)
    clear hcb hzb hrb hb9
    obtain ⟨_, hcb, hzb, hrb⟩ := HL.out
    cases B1 <;> cases B2
    all_goals
      go_wp2_with fail
      go_region_held3 (fun w' => w'.cell? ⟨w1.heap.size, 0, none⟩ = some (.slice A1 l.length c1)) (first | exact hcb | exact hS_K1 | exact hS_K2 | exact hS_K3 | exact hS_K4 | exact hS_K5) (first | (have hq := hr_K4; clear hq; go_at_call 12; refine (alive _).mono ?_; rintro e Y5 ⟨rfl, z5⟩; have K5 := Lib.hid (K4.out.next (by exact z5)); have hS_K5 := K5.out.2.1; have hr_K5 := K5.out.2.2.2) | (have hq := hr_K3; clear hq; go_at_call 14; refine (hO _ (by exact hr_K3)).mono ?_; rintro e Y4 ⟨rfl, z4⟩; have K4 := Lib.hid (K3.out.next (by exact z4)); have hS_K4 := K4.out.2.1; have hr_K4 := K4.out.2.2.2) | (have hq := hr_K2; clear hq; go_at_call 14; refine (hM _ (by exact hr_K2)).mono ?_; rintro e Y3 ⟨rfl, z3⟩; have K3 := Lib.hid (K2.out.next (by exact z3)); have hS_K3 := K3.out.2.1; have hr_K3 := K3.out.2.2.2) | (have hq := hr_K1; clear hq; go_at_call 10; refine (hgv _ (by exact hr_K1)).mono ?_; rintro e Y2 ⟨rfl, z2⟩; have K2 := Lib.hid (K1.out.next (by exact z2)); have hS_K2 := K2.out.2.1; have hr_K2 := K2.out.2.2.2) | (go_at_call 14; refine (hA _ (by exact hrb)).mono ?_; rintro e Y1 ⟨rfl, z1⟩; have K1 := Lib.hid (HL.out.next (undrew (by exact z1))); have hS_K1 := K1.out.2.1; have hr_K1 := K1.out.2.2.2))
      go_wp2_with fail
      go_ret
      exact ⟨rfl, K5.out.1⟩
  · go_enter Try.func4, Try.ntmps4
    go_wp2_with fail
    go_ret
    exact ⟨rfl, Below.refl _ _⟩
namespace rowSetValid
theorem contract (H : Type) (enc : TypeId × Value → H) (W : World) (base : Nat) (args : Array Value) (ds gs : List (DataW H)) (before : List MemPlace)
    (hval : ∀ (j : Nat) t v, Try.f4.params[j]? = some t → args[j]? = some v → Value.okWide Try.prog W .any base t v)
    (hW : DataW.Whole enc Try.prog Try.f4.params.toList Rows.fnSetValidSpec.vars false W args.toList ds gs before) :
    Calls Try.prog 4 args W fun e W' => ∃ v, e = .returned v ∧ Rows.fnSetValidSpec.post enc Try.prog Try.f4 false true false false W args v W' := by
  have hW' := hW
  obtain ⟨p, q, hA0, hV, rfl, _, _⟩ := hW
  obtain ⟨rfl, rfl⟩ := trodVars_none hV
  simp only [List.append_nil] at hW'
  have hlt : ∀ x ∈ p, x.block < W.heap.size := fun x hx => hW'.lt x hx
  have hA : DataW.TrodAll enc Try.prog W 0 (fun _ => true) true Try.f4.params.toList args.toList ds p := hA0
  rw [Try.params4] at hA hval
  obtain ⟨v0, vs0, d0, ds0, p0, q0, hargs, rfl, rfl, h0, r0⟩ := trodAll_cons hA
  obtain ⟨rfl, rfl, rfl⟩ := trodAll_nil r0
  obtain rfl : args = #[v0] := by cases args; simp_all
  obtain ⟨A0, n0, c0, rfl, m0, k0, g0⟩ := open_bytes (hval 0 _ v0 rfl rfl) h0 (fun x hx => hlt x (by simp [hx]))
  refine (lawSetValid A0 n0 c0 m0 k0 W g0).mono fun e W' ⟨he, hg⟩ => ?_
  subst he
  exact ⟨_, rfl, post_true rfl (by kernel_rfl) rfl (by kernel_rfl) hW' hA0 hg⟩
set_option maxRecDepth 100000 in
theorem lifted (os : Os) (started : os.Started) (H : Type) (enc : TypeId × Value → H) :
    ReturnsInHanded {} Try.checked os 4 .any (Rows.fnSetValidSpec.pre6 enc Try.prog Try.f4 Rows.fnSetValidRow.domain false) (Rows.fnSetValidSpec.post enc Try.prog Try.f4 false true false false) := by
  refine returnsInHanded_of_change (C := Try.checked) own_knob started (by kernel_rfl) Try.func4
    (ChangeSpec.witness6 (enc := enc) (C := Try.checked) false ⟨#[], #[.slice none 0 0], []⟩ 8 (by kernel_rfl) (by kernel_rfl) (by kernel_rfl) (by kernel_rfl)) ?_
  intro W base args ds gs before hval hW _ _
  exact contract H enc W base args ds gs before hval hW
end rowSetValid
theorem SetValid_holds : Rows.FnSetValidSaid :=
  OpenClaim.holds_of_wide 4 Try.f4 rfl rfl rfl rfl rfl rfl rfl ⟨rfl, rfl, rfl, rfl, rfl⟩ rfl rfl rfl rfl rfl (by kernel_rfl) Try.func4 (by kernel_rfl)
    (of_decide_eq_true (by kernel_rfl)) (by unfold Func.isWrapper; first | (rw [if_pos (by decide +kernel)]; kernel_rfl) | (rw [if_neg (by decide +kernel)]; exact ⟨rfl, rfl⟩))
    (fun os started H enc _ => rowSetValid.lifted os started H enc)
#print axioms SetValid_holds
end Go.Proofs.Ytabcjobggceaaaa

