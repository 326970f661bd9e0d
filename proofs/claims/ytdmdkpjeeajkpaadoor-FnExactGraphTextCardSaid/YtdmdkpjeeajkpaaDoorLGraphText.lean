/- FnExactGraphText: the program's GraphText returns what the reference's returns, for all arguments. No conditions. -/
import Derived.Test.YtdmdkpjeeajkpaaDoorHelp
import Derived.Test.YtdmdkpjeeajkpaaDoorTie
import Derived.Test.YtdmdkpjeeajkpaaDoorCards
import Derived.SevenTiedAt
import Derived.LaidMore
import Derived.Stop.Joined
import Derived.Test.YtdmdkpjeeajkpaaDoorGt3
import Derived.Test.YtdmdkpjeeajkpaaDoorRowG
import Derived.Deep.RegionHeld3
import Derived.Deep.DeepCutAuto
namespace Go.Proofs.YtdmdkpjeeajkpaaDoor
open Go.ChangeShapes Go.WideShapes Go.ChangeAt Go.RowKit
theorem lawGraphText (l : List Int) (A : Option Addr) (c : Nat) (hm : l.length ≤ maxLen) (w : World) (hr : RdI w w.heap.size A l) :
    Calls Tryd.prog 4 #[.agg #[.slice A l.length c]] w fun e w' => e = .returned (.bool true) ∧ Below w.heap.size w w' := by
  by_cases hl : l.length ≤ 1048576
  · go_enter Tryd.func4, Tryd.ntmps4
    go_wp2_with fail
    refine (szGraph_yes A l.length c _ (by omega) (by omega) hm (by omega) _).mono ?_
    rintro e w1 ⟨rfl, hb⟩
    obtain ⟨hb, hc, hz⟩ := box_after hb
    go_wp2_with fail
    refine (toGraph l A c hl _ (hr.at_ hb)).mono ?_
    rintro e w2 ⟨v1, rfl, ho1, hb2⟩
    obtain ⟨hb, hc, hz⟩ := box_next hb hc hz hb2
    obtain ⟨A1, c1, rfl, hr1⟩ := ho1.rd
    go_wp2_with fail
    refine (specGraphText l A1 c1 (by omega) _ hr1).mono ?_
    rintro e w3 ⟨rfl, hb3⟩
    obtain ⟨hb, hc, hz⟩ := box_next hb hc hz hb3
    go_wp2_with fail
    refine (toGraph l A c hl _ (hr.at_ hb)).mono ?_
    rintro e w4 ⟨v2, rfl, ho2, hb4⟩
    obtain ⟨hb, hc, hz⟩ := box_next hb hc hz hb4
    obtain ⟨A2, c2, rfl, hr2⟩ := ho2.rd
    go_wp2_with fail
    refine (implGraphText l A2 c2 (by omega) _ (hr2.at_ (below1 _))).mono ?_
    rintro e w5 ⟨rfl, hb5⟩
    obtain ⟨hb5, hx, hzx⟩ := box_after hb5
    obtain ⟨hb, hc, hz⟩ := box_next hb hc hz hb5
    have hr2 := hr2.at_ hb5
    have hra := hr.at_ hb
    go_wp2_with fail
    go_region_held3 (fun w' => w'.cell? ⟨w4.heap.size, 0, none⟩ = some (.slice A2 l.length c2) ∧ w'.cell? ⟨w.heap.size, 0, none⟩ = some (.slice A l.length c)) (first | exact ⟨hx, hc⟩ | exact hS7 | exact hS6) (first | (go_at_call 12; refine (toGraph l A c hl _ (by exact hra)).mono ?_; rintro e w6 ⟨v3, rfl, ho3, hb6⟩; obtain ⟨A3, c3, rfl, hr3⟩ := ho3.rd; have hr2' := RdI.at_ (by exact hr2) hb6; have hS6 := And.intro ((hb6.cell (p := ⟨w4.heap.size, 0, none⟩) (by exact hzx)).trans (by exact hx)) ((hb6.cell (p := ⟨w.heap.size, 0, none⟩) (by exact hz)).trans (by exact hc))) | (go_at_call 7; refine (eqGraph l A2 A3 c2 c3 hl _ (by exact hr2') (by exact hr3)).mono ?_; rintro e w7 ⟨rfl, hb7⟩; have hb67 := hb6.trans (hb7.mono hb6.size); have hS7 := And.intro ((hb67.cell (p := ⟨w4.heap.size, 0, none⟩) (by exact hzx)).trans (by exact hx)) ((hb67.cell (p := ⟨w.heap.size, 0, none⟩) (by exact hz)).trans (by exact hc))))
    go_wp2_with fail
    go_ret
    exact ⟨rfl, hb.trans (Below.mono (B := w5.heap.size) (undrew hb67) (by omega))⟩
  · go_enter Tryd.func4, Tryd.ntmps4
    go_wp2_with fail
    refine (szGraph_no A l.length c _ (by omega) (by omega) hm (by omega) _).mono ?_
    rintro e w1 ⟨rfl, hb⟩
    obtain ⟨hb, hc, hz⟩ := box_after hb
    go_wp2_with fail
    go_ret
    exact ⟨rfl, hb⟩
namespace rowGraphText
theorem contract (H : Type) (enc : TypeId × Value → H) (W : World) (base : Nat) (args : Array Value) (ds gs : List (DataW H)) (before : List MemPlace)
    (hval : ∀ (j : Nat) t v, Tryd.f4.params[j]? = some t → args[j]? = some v → Value.okWide Tryd.prog W .any base t v)
    (hW : DataW.Whole enc Tryd.prog Tryd.f4.params.toList Rows.fnExactGraphTextSpec.vars false W args.toList ds gs before) :
    Calls Tryd.prog 4 args W fun e W' => ∃ v, e = .returned v ∧ Rows.fnExactGraphTextSpec.post enc Tryd.prog Tryd.f4 false true false false W args v W' := by
  have hW' := hW
  obtain ⟨p, q, hA0, hV, rfl, _, _⟩ := hW
  obtain ⟨rfl, rfl⟩ := trodVars_none hV
  simp only [List.append_nil] at hW'
  have hlt : ∀ x ∈ p, x.block < W.heap.size := fun x hx => hW'.lt x hx
  have hA : DataW.TrodAll enc Tryd.prog W 0 (fun _ => true) true Tryd.f4.params.toList args.toList ds p := hA0
  rw [Tryd.params4] at hA hval
  obtain ⟨v0, vs0, d0, ds0, p0, q0, hargs, rfl, rfl, h0, r0⟩ := trodAll_cons hA
  obtain ⟨rfl, rfl, rfl⟩ := trodAll_nil r0
  obtain rfl : args = #[v0] := by cases args; simp_all
  obtain ⟨A0, c0, l0, rfl, m0, g0, _⟩ := open_graph (hval 0 _ v0 rfl rfl) h0 (fun x hx => hlt x (by simp [hx]))
  refine (lawGraphText l0 A0 c0 m0 W g0).mono fun e W' ⟨he, hg⟩ => ?_
  subst he
  exact ⟨_, rfl, post_true rfl (by kernel_rfl) rfl (by kernel_rfl) hW' hA0 hg⟩
theorem door_met (os : Os) (args : Array Value) : laidMetH Tryd.prog Rows.fnExactGraphTextRow.laid ((World.doorLaid Tryd.prog 400 os).forCall (fun _ _ => 0) ⟨#[], args, []⟩).memory :=
  laidMetH_of_parts3 (fuel := 8) (laidMet_of_run' 8 (by kernel_rfl) (by kernel_rfl)) (by kernel_rfl) (by kernel_rfl)
set_option maxRecDepth 100000 in
theorem lifted (os : Os) (started : os.Started) (H : Type) (enc : TypeId × Value → H) :
    ReturnsInHanded {} Tryd.checked os 4 .any (fun w args => (Rows.fnExactGraphTextSpec.pre enc Tryd.prog Tryd.f4 [] false w args ∧ laidMetH Tryd.prog Rows.fnExactGraphTextRow.laid w) ∧ sizedMet enc Tryd.prog Tryd.f4 (OpenSpec.ofChange Rows.fnExactGraphTextSpec) false w args) (Rows.fnExactGraphTextSpec.post enc Tryd.prog Tryd.f4 false true false false) := by
  refine returnsInHanded_of_change_and (C := Tryd.checked) (X := fun w _ => laidMetH Tryd.prog Rows.fnExactGraphTextRow.laid w) (fun _ _ _ hh h => h.of_heap hh) own_knob started (by kernel_rfl) Tryd.func4
    (ChangeSpec.witness_shaped (enc := enc) (C := Tryd.checked) (os := os) (X := fun w _ => laidMetH Tryd.prog Rows.fnExactGraphTextRow.laid w) false (World.doorLaid Tryd.prog 400 os) #[.agg #[.slice none 0 0]] 8 rfl (World.shaped_of_RefB (by kernel_rfl) (by kernel_rfl)) (by kernel_rfl) (by kernel_rfl) (by kernel_rfl) (door_met os _)) ?_
  intro W base args ds gs before hval0 hW _ _ _ _
  exact contract H enc W base args ds gs before hval0 hW
theorem row_holds : Rows.FnExactGraphTextSaid :=
  OpenClaim.holds_of_wide 4 Tryd.f4 rfl rfl rfl rfl rfl rfl rfl ⟨rfl, rfl, rfl, rfl, rfl⟩ rfl rfl rfl rfl rfl (by kernel_rfl) Tryd.func4 (by kernel_rfl)
    (of_decide_eq_true (by kernel_rfl)) (by unfold Func.isWrapper; first | (rw [if_pos (by decide +kernel)]; kernel_rfl) | (rw [if_neg (by decide +kernel)]; exact ⟨rfl, rfl⟩))
    (fun os started H enc _ => lifted os started H enc)
end rowGraphText
theorem GraphText_holds : Rows.FnExactGraphTextCardSaid :=
  Claim7.holds_tied_plain_at .later [] [.data, .data, .data] true Rows.fnExactGraphTextCard.stood.harness false rowGraphText.row_holds (fun _ h => by cases h) (by kernel_rfl) (fun _ h => by cases h) fnExactGraphText_row_tie rfl ⟨rfl, rfl⟩ (by kernel_rfl) rfl
    (fun f fn hf hfn => by
      obtain rfl : f = 4 := Option.some.inj ((show Tryd.prog.funcNamed Rows.fnExactGraphTextRow.func = some 4 by kernel_rfl).symm.trans hf) |>.symm
      obtain rfl : fn = Tryd.f4 := (Option.some.inj (Tryd.func4.symm.trans hfn)).symm
      exact ⟨by kernel_rfl, fun j t ht => by
        rw [Tryd.params4] at ht
        have hm : t ∈ [30] := by simpa using Array.mem_of_getElem? ht
        have hall : ([30].all fun u => !Tryd.prog.wantsStandIn u) = true := by kernel_rfl
        exact (show Tryd.prog.wantsStandIn t = false by simpa using List.all_eq_true.1 hall t hm)⟩)
    (by kernel_rfl)
#print axioms GraphText_holds
end Go.Proofs.YtdmdkpjeeajkpaaDoor

