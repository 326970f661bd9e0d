/- FnExactRankOf: the program's RankOf returns what the reference's returns, for all arguments. No conditions. -/
import Derived.Test.YtigaadfopbdedaaHelp
import Derived.Test.YtigaadfopbdedaaRank2
import Derived.Test.YtigaadfopbdedaaRow
import Derived.Deep.RegionHeld3
import Derived.Deep.DeepCutAuto
namespace Go.Proofs.Ytigaadfopbdedaa
open Go.ChangeShapes Go.WideShapes Go.ChangeAt Go.RowKit
theorem lawRankOf (l : List Int) (A : Option Addr) (c : Nat) (hm : l.length ≤ maxLen) (w : World) (hr : RdI w w.heap.size A l) :
    Calls Try.prog 8 #[.slice A l.length c] w fun e w' => e = .returned (.bool true) ∧ Below w.heap.size w w' := by
  by_cases hl : l.length ≤ 1048576
  · go_enter Try.func8, Try.ntmps8
    go_wp2_with fail
    refine (toIntS l A c hl _ hr).mono ?_
    rintro e w1 ⟨v1, rfl, ho1, hb1⟩
    obtain ⟨A1, c1, rfl, hr1⟩ := ho1.rd
    have hra := hr.at_ hb1
    go_wp2_with fail
    refine (specRankOf l A1 c1 hl _ hr1).mono ?_
    rintro e w2 ⟨rfl, hb2⟩
    have hb12 := hb1.trans (hb2.mono hb1.size)
    have hrb := hr.at_ hb12
    go_wp2_with fail
    refine (toIntS l A c hl _ hrb).mono ?_
    rintro e w3 ⟨v2, rfl, ho2, hb3⟩
    obtain ⟨A2, c2, rfl, hr2⟩ := ho2.rd
    have hb13 := hb12.trans (hb3.mono hb12.size)
    go_wp2_with fail
    refine (implRankOf l A2 c2 (by omega) _ hr2).mono ?_
    rintro e w4 ⟨rfl, hb4⟩
    have hb14 := hb13.trans (hb4.mono hb13.size)
    have hrd := hr.at_ hb14
    have hr2 := hr2.at_ hb4
    go_wp2_with fail
    refine (toIntS l A c hl _ hrd).mono ?_
    rintro e w5 ⟨v3, rfl, ho3, hb5⟩
    obtain ⟨A3, c3, rfl, hr3⟩ := ho3.rd
    have hr2 := hr2.at_ hb5
    have hb15 := hb14.trans (hb5.mono hb14.size)
    go_wp2_with fail
    refine (eqIntS l A2 A3 c2 c3 hl _ hr2 hr3).mono ?_
    rintro e w6 ⟨rfl, nn, rfl⟩
    go_wp2_with fail
    go_ret
    exact ⟨rfl, bdr hb15 nn⟩
  · go_enter Try.func8, Try.ntmps8
    unfold maxLen at hm
    go_wp2_with fail
    go_ret
    exact ⟨rfl, Below.refl _ _⟩
namespace rowRankOf
theorem contract (H : Type) (enc : TypeId × Value → H) (W : World) (base : Nat) (args : Array Value) (ds gs : List (DataW H)) (before : List MemPlace)
    (hval : ∀ (j : Nat) t v, Try.f8.params[j]? = some t → args[j]? = some v → Value.okWide Try.prog W .any base t v)
    (hW : DataW.Whole enc Try.prog Try.f8.params.toList Rows.fnExactRankOfSpec.vars false W args.toList ds gs before) :
    Calls Try.prog 8 args W fun e W' => ∃ v, e = .returned v ∧ Rows.fnExactRankOfSpec.post enc Try.prog Try.f8 false true false false W args v W' := by
  have hW' := hW
  obtain ⟨p, q, hA0, hV, rfl, _, _⟩ := hW
  obtain ⟨rfl, rfl⟩ := trodVars_none hV
  simp only [List.append_nil] at hW'
  have hlt : ∀ x ∈ p, x.block < W.heap.size := fun x hx => hW'.lt x hx
  have hA : DataW.TrodAll enc Try.prog W 0 (fun _ => true) true Try.f8.params.toList args.toList ds p := hA0
  rw [Try.params8] at hA hval
  obtain ⟨v0, vs0, d0, ds0, p0, q0, hargs, rfl, rfl, h0, r0⟩ := trodAll_cons hA
  obtain ⟨rfl, rfl, rfl⟩ := trodAll_nil r0
  obtain rfl : args = #[v0] := by cases args; simp_all
  obtain ⟨A0, c0, l0, rfl, m0, g0, _⟩ := open_intlist (hval 0 _ v0 rfl rfl) h0 (fun x hx => hlt x (by simp [hx]))
  refine (lawRankOf l0 A0 c0 m0 W g0).mono fun e W' ⟨he, hg⟩ => ?_
  subst he
  exact ⟨_, rfl, post_true rfl (by kernel_rfl) rfl (by kernel_rfl) hW' hA0 hg⟩
set_option maxRecDepth 100000 in
theorem lifted (os : Os) (started : os.Started) (H : Type) (enc : TypeId × Value → H) :
    ReturnsInHanded {} Try.checked os 8 .any (Rows.fnExactRankOfSpec.pre6 enc Try.prog Try.f8 Rows.fnExactRankOfRow.domain false) (Rows.fnExactRankOfSpec.post enc Try.prog Try.f8 false true false false) := by
  refine returnsInHanded_of_change (C := Try.checked) own_knob started (by kernel_rfl) Try.func8
    (ChangeSpec.witness6 (enc := enc) (C := Try.checked) false ⟨#[], #[.slice none 0 0], []⟩ 8 (by kernel_rfl) (by kernel_rfl) (by kernel_rfl) (by kernel_rfl)) ?_
  intro W base args ds gs before hval hW _ _
  exact contract H enc W base args ds gs before hval hW
end rowRankOf
theorem RankOf_holds : Rows.FnExactRankOfSaid :=
  OpenClaim.holds_of_wide 8 Try.f8 rfl rfl rfl rfl rfl rfl rfl ⟨rfl, rfl, rfl, rfl, rfl⟩ rfl rfl rfl rfl rfl (by kernel_rfl) Try.func8 (by kernel_rfl)
    (of_decide_eq_true (by kernel_rfl)) (by unfold Func.isWrapper; first | (rw [if_pos (by decide +kernel)]; kernel_rfl) | (rw [if_neg (by decide +kernel)]; exact ⟨rfl, rfl⟩))
    (fun os started H enc _ => rowRankOf.lifted os started H enc)
#print axioms RankOf_holds
end Go.Proofs.Ytigaadfopbdedaa

