/- FnExactWorstOut: the program's WorstOut returns what the reference's returns, for all arguments. No conditions. -/
import Derived.Test.YtnjfclfpjdbdnaaHelp
import Derived.Test.YtnjfclfpjdbdnaaWo
import Derived.Test.YtnjfclfpjdbdnaaRowG
import Derived.Deep.RegionHeld3
import Derived.Deep.DeepCutAuto
namespace Go.Proofs.Ytnjfclfpjdbdnaa
open Go.ChangeShapes Go.WideShapes Go.ChangeAt Go.RowKit
theorem lawWorstOut (l : List Int) (A : Option Addr) (c : Nat) (hm : l.length ≤ maxLen) (w : World) (hr : RdI w w.heap.size A l) :
    Calls Try.prog 4 #[.agg #[.slice A l.length c]] w fun e w' => e = .returned (.bool true) ∧ Below w.heap.size w w' := by
  by_cases hl : l.length ≤ 1048576
  · go_enter Try.func4, Try.ntmps4
    go_wp2_with fail
    refine (szGraph_yes A l.length c _ (by omega) (by omega) hm (by omega) _).mono ?_
    rintro e w1 ⟨rfl, hb⟩
    obtain ⟨hb, hc, hz⟩ := box_after hb
    go_wp2_with fail
    refine (toGraph l A c hl _ (hr.at_ hb)).mono ?_
    rintro e w2 ⟨v1, rfl, ho1, hb2⟩
    obtain ⟨hb, hc, hz⟩ := box_next hb hc hz hb2
    obtain ⟨A1, c1, rfl, hr1⟩ := ho1.rd
    go_wp2_with fail
    refine (specWorstOut l A1 c1 (by omega) _ hr1).mono ?_
    rintro e w3 ⟨rfl, hb3⟩
    obtain ⟨hb, hc, hz⟩ := box_next hb hc hz hb3
    go_wp2_with fail
    refine (toGraph l A c hl _ (hr.at_ hb)).mono ?_
    rintro e w4 ⟨v2, rfl, ho2, hb4⟩
    obtain ⟨hb, hc, hz⟩ := box_next hb hc hz hb4
    obtain ⟨A2, c2, rfl, hr2⟩ := ho2.rd
    go_wp2_with fail
    refine (implWorstOut l A2 c2 (by omega) _ (hr2.at_ (below1 _))).mono ?_
    rintro e w5 ⟨rfl, hb5⟩
    obtain ⟨hb5, hx, hzx⟩ := box_after hb5
    obtain ⟨hb, hc, hz⟩ := box_next hb hc hz hb5
    have hr2 := hr2.at_ hb5
    have hra := hr.at_ hb
    go_wp2_with fail
    go_region_held3 (fun w' => w'.cell? ⟨w4.heap.size, 0, none⟩ = some (.slice A2 l.length c2) ∧ w'.cell? ⟨w.heap.size, 0, none⟩ = some (.slice A l.length c)) (first | exact ⟨hx, hc⟩ | exact hS7 | exact hS6) (first | (go_at_call 7; refine (toGraph l A c hl _ (by exact hra)).mono ?_; rintro e w6 ⟨v3, rfl, ho3, hb6⟩; obtain ⟨A3, c3, rfl, hr3⟩ := ho3.rd; have hr2' := RdI.at_ (by exact hr2) hb6; have hS6 := And.intro ((hb6.cell (p := ⟨w4.heap.size, 0, none⟩) (by exact hzx)).trans (by exact hx)) ((hb6.cell (p := ⟨w.heap.size, 0, none⟩) (by exact hz)).trans (by exact hc))) | (go_at_call 9; refine (eqGraph l A2 A3 c2 c3 hl _ (by exact hr2') (by exact hr3)).mono ?_; rintro e w7 ⟨rfl, hb7⟩; have hb67 := hb6.trans (hb7.mono hb6.size); have hS7 := And.intro ((hb67.cell (p := ⟨w4.heap.size, 0, none⟩) (by exact hzx)).trans (by exact hx)) ((hb67.cell (p := ⟨w.heap.size, 0, none⟩) (by exact hz)).trans (by exact hc))))
    go_wp2_with fail
    go_ret
    exact ⟨rfl, hb.trans (Below.mono (B := w5.heap.size) (undrew hb67) (by omega))⟩
  · go_enter Try.func4, Try.ntmps4
    go_wp2_with fail
    refine (szGraph_no A l.length c _ (by omega) (by omega) hm (by omega) _).mono ?_
    rintro e w1 ⟨rfl, hb⟩
    obtain ⟨hb, hc, hz⟩ := box_after hb
    go_wp2_with fail
    go_ret
    exact ⟨rfl, hb⟩
namespace rowWorstOut
theorem contract (H : Type) (enc : TypeId × Value → H) (W : World) (base : Nat) (args : Array Value) (ds gs : List (DataW H)) (before : List MemPlace)
    (hval : ∀ (j : Nat) t v, Try.f4.params[j]? = some t → args[j]? = some v → Value.okWide Try.prog W .any base t v)
    (hW : DataW.Whole enc Try.prog Try.f4.params.toList Rows.fnExactWorstOutSpec.vars false W args.toList ds gs before) :
    Calls Try.prog 4 args W fun e W' => ∃ v, e = .returned v ∧ Rows.fnExactWorstOutSpec.post enc Try.prog Try.f4 false true false false W args v W' := by
  have hW' := hW
  obtain ⟨p, q, hA0, hV, rfl, _, _⟩ := hW
  obtain ⟨rfl, rfl⟩ := trodVars_none hV
  simp only [List.append_nil] at hW'
  have hlt : ∀ x ∈ p, x.block < W.heap.size := fun x hx => hW'.lt x hx
  have hA : DataW.TrodAll enc Try.prog W 0 (fun _ => true) true Try.f4.params.toList args.toList ds p := hA0
  rw [Try.params4] at hA hval
  obtain ⟨v0, vs0, d0, ds0, p0, q0, hargs, rfl, rfl, h0, r0⟩ := trodAll_cons hA
  obtain ⟨rfl, rfl, rfl⟩ := trodAll_nil r0
  obtain rfl : args = #[v0] := by cases args; simp_all
  obtain ⟨A0, c0, l0, rfl, m0, g0, _⟩ := open_graph (hval 0 _ v0 rfl rfl) h0 (fun x hx => hlt x (by simp [hx]))
  refine (lawWorstOut l0 A0 c0 m0 W g0).mono fun e W' ⟨he, hg⟩ => ?_
  subst he
  exact ⟨_, rfl, post_true rfl (by kernel_rfl) rfl (by kernel_rfl) hW' hA0 hg⟩
set_option maxRecDepth 100000 in
theorem lifted (os : Os) (started : os.Started) (H : Type) (enc : TypeId × Value → H) :
    ReturnsInHanded {} Try.checked os 4 .any (Rows.fnExactWorstOutSpec.pre6 enc Try.prog Try.f4 Rows.fnExactWorstOutRow.domain false) (Rows.fnExactWorstOutSpec.post enc Try.prog Try.f4 false true false false) := by
  refine returnsInHanded_of_change (C := Try.checked) own_knob started (by kernel_rfl) Try.func4
    (ChangeSpec.witness6 (enc := enc) (C := Try.checked) false ⟨#[], #[.agg #[.slice none 0 0]], []⟩ 8 (by kernel_rfl) (by kernel_rfl) (by kernel_rfl) (by kernel_rfl)) ?_
  intro W base args ds gs before hval hW _ _
  exact contract H enc W base args ds gs before hval hW
end rowWorstOut
theorem WorstOut_holds : Rows.FnExactWorstOutSaid :=
  OpenClaim.holds_of_wide 4 Try.f4 rfl rfl rfl rfl rfl rfl rfl ⟨rfl, rfl, rfl, rfl, rfl⟩ rfl rfl rfl rfl rfl (by kernel_rfl) Try.func4 (by kernel_rfl)
    (of_decide_eq_true (by kernel_rfl)) (by unfold Func.isWrapper; first | (rw [if_pos (by decide +kernel)]; kernel_rfl) | (rw [if_neg (by decide +kernel)]; exact ⟨rfl, rfl⟩))
    (fun os started H enc _ => rowWorstOut.lifted os started H enc)
#print axioms WorstOut_holds
end Go.Proofs.Ytnjfclfpjdbdnaa

