/- FnExactReadGraph: the program's ReadGraph returns what the reference's returns, for all texts. No conditions. -/
import Derived.Test.YtdmdkpjeeajkpaaDoorHelp
import Derived.Test.YtdmdkpjeeajkpaaDoorTie
import Derived.Test.YtdmdkpjeeajkpaaDoorCards
import Derived.SevenTiedAt
import Derived.LaidMore
import Derived.Stop.Joined
import Derived.Test.YtdmdkpjeeajkpaaDoorItem
import Derived.Test.YtdmdkpjeeajkpaaDoorRs3
import Derived.Test.YtdmdkpjeeajkpaaDoorRowG
import Derived.Deep.RegionHeld3
import Derived.Deep.DeepCutAuto
namespace Go.Proofs.YtdmdkpjeeajkpaaDoor
open Go.ChangeShapes Go.WideShapes Go.ChangeAt Go.RowKit
theorem bel_far {w W W' : World} {lo2 hi2 : Nat} {v2 : Value} {M : List Int} (h : Below w.heap.size w W) (hO : OwnI W lo2 hi2 v2 M) (hg : W.grownBy W' v2.ownBlock) (q : w.heap.size ≤ lo2) : Below w.heap.size w W' :=
  h.trans (below_of_grown hg h.size fun g e => by have := (hO.1.lt g e).1; omega)
set_option maxHeartbeats 2000000 in
theorem lawReadGraph (l : List UInt8) (w : World) :
    Calls Tryd.prog 3 #[.string ⟨l.toArray⟩] w fun e w' => e = .returned (.bool true) ∧ Below w.heap.size w w' := by
  have hsz := sizeL l
  by_cases hl : l.length ≤ 1048576
  · have hS := fun W => specReadGraph l (by omega) W
    have hI := fun W => implReadGraph l (by omega) W
    unfold RdPost at hS hI
    have hlen := Sw.vRd_len l
    obtain ⟨L, hL⟩ : ∃ L, L = Sw.vRd l := ⟨_, rfl⟩
    obtain ⟨ok, hok⟩ : ∃ ok, ok = Sw.vRdB l := ⟨_, rfl⟩
    obtain ⟨S, hSe⟩ : ∃ S : ByteArray, S = ⟨l.toArray⟩ := ⟨_, rfl⟩
    rw [← hL, ← hok, ← hSe] at hS hI
    rw [← hL] at hlen
    rw [← hSe] at hsz ⊢
    have HS := Lib.hid hS
    have HI := Lib.hid hI
    clear hL hok hS hI hSe
    go_enter Tryd.func3, Tryd.ntmps3
    go_wp2_with fail
    refine (HS.out _).mono ?_
    rintro e w3 ⟨vS, rfl, hoS, hb3⟩
    obtain ⟨AS, cS, rfl, _⟩ := hoS.rd
    have s3 := hb3.size
    have HA3 := Lib.hid (hb3.trans ((below1 (.cells #[.slice AS L.length cS] 24)).mono s3))
    have X3 := Lib.hid (It.new hoS 24)
    have hc10 := X3.out.1
    clear hoS hb3
    go_wp2_with fail
    refine (HI.out _).mono ?_
    rintro e w5 ⟨vI, rfl, hoI, hb5⟩
    obtain ⟨AI, cI, rfl, _⟩ := hoI.rd
    have s5 := hb5.size
    simp only [World.size_alloc] at s5
    have hb5' : Below (w3.alloc (.cells #[.slice AS L.length cS] 24)).heap.size (w3.alloc (.cells #[.slice AS L.length cS] 24)) (w5.alloc (.cells #[.slice AI L.length cI] 24)) := hb5.trans ((below1 _).mono hb5.size)
    have HA5 := Lib.hid (HA3.out.trans (hb5'.mono HA3.out.size))
    have X5 := Lib.hid (X3.out.next hb5')
    have Y5 := Lib.hid (It.new hoI 24)
    have hc10 := X5.out.1
    have hc13 := Y5.out.1
    clear HA3 X3 hoI hb5 hb5'
    go_wp2_with fail
    refine (eqGraph L AI AS cI cS (by omega) _ Y5.out.rd X5.out.rd).mono ?_
    rintro e w6 ⟨rfl, hb6⟩
    have HA6 := Lib.hid (HA5.out.trans (hb6.mono HA5.out.size))
    have X6 := Lib.hid (X5.out.next hb6)
    have Y6 := Lib.hid (Y5.out.next hb6)
    have hc10 := X6.out.1
    have hc13 := Y6.out.1
    clear HA5 X5 Y5 hb6
    go_wp2_with fail
    refine (markGraph L _ _ _ 1 (by omega) (by decide) (by decide) _ Y6.out.2.2).mono ?_
    rintro e w10 ⟨rfl, ho10, hg10⟩
    have HA10 := Lib.hid (bel_far HA6.out Y6.out.2.2 hg10 (by (try simp only [World.size_alloc]); omega))
    have X10 := Lib.hid (X6.out.far Y6.out.2.2 hg10 (by (try simp only [World.size_alloc]); omega) (by (try simp only [World.size_alloc]); omega))
    have Y10 := Lib.hid (Y6.out.mark ho10 hg10 (by (try simp only [World.size_alloc]); omega))
    clear HA6 X6 Y6 ho10 hg10
    have hc10 := X10.out.1
    have hc13 := Y10.out.1
    go_wp2_with fail
    refine (heldGraph L.length AI cI 1 (by omega) (by decide) (by decide) _ Y10.out.rd).mono ?_
    rintro e w11 ⟨rfl, hb11⟩
    have HA11 := Lib.hid (HA10.out.trans (hb11.mono HA10.out.size))
    have X11 := Lib.hid (X10.out.next hb11)
    have Y11 := Lib.hid (Y10.out.next hb11)
    have hc10 := X11.out.1
    have hc13 := Y11.out.1
    clear HA10 X10 Y10 hb11
    go_wp2_with fail
    refine (HI.out _).mono ?_
    rintro e w13 ⟨v5, rfl, ho13, hb13⟩
    obtain ⟨A5, c5, rfl, hr5⟩ := ho13.rd
    have hb13' : Below w11.heap.size w11 (w13.alloc (.cells #[.slice A5 L.length c5] 24)) := hb13.trans ((below1 _).mono hb13.size)
    have HA13 := Lib.hid (HA11.out.trans (hb13'.mono HA11.out.size))
    have X13 := Lib.hid (X11.out.next hb13')
    have Y13 := Lib.hid (Y11.out.next hb13')
    have hc10 := X13.out.1
    have hc13 := Y13.out.1
    clear HA11 X11 Y11 hb13 hb13' ho13
    go_wp2_with fail
    refine (eqGraph L A5 AS c5 cS (by omega) _ (hr5.at_ (below1 _)) X13.out.rd).mono ?_
    rintro e w14 ⟨rfl, hb14⟩
    have HA14 := Lib.hid (HA13.out.trans (hb14.mono HA13.out.size))
    have Y14 := Lib.hid (Y13.out.next hb14)
    have hc13 := Y14.out.1
    clear HA13 X13 Y13 hb14
    go_wp2_with fail
    refine (heldGraph L.length AI cI 1 (by omega) (by decide) (by decide) _ Y14.out.rd).mono ?_
    rintro e w15 ⟨rfl, hb15⟩
    have HA15 := Lib.hid (HA14.out.trans (hb15.mono HA14.out.size))
    clear HA14 Y14 hb15
    go_wp2_with fail
    go_ret
    exact ⟨rfl, HA15.out⟩
  · obtain ⟨S, hSe⟩ : ∃ S : ByteArray, S = ⟨l.toArray⟩ := ⟨_, rfl⟩
    rw [← hSe] at hsz ⊢
    clear hSe
    go_enter Tryd.func3, Tryd.ntmps3
    go_wp2_with fail
    go_ret
    exact ⟨rfl, Below.refl _ _⟩
namespace rowReadGraph
theorem contract (H : Type) (enc : TypeId × Value → H) (W : World) (base : Nat) (args : Array Value) (ds gs : List (DataW H)) (before : List MemPlace)
    (hval : ∀ (j : Nat) t v, Tryd.f3.params[j]? = some t → args[j]? = some v → Value.okWide Tryd.prog W .any base t v)
    (hW : DataW.Whole enc Tryd.prog Tryd.f3.params.toList Rows.fnExactReadGraphSpec.vars false W args.toList ds gs before) :
    Calls Tryd.prog 3 args W fun e W' => ∃ v, e = .returned v ∧ Rows.fnExactReadGraphSpec.post enc Tryd.prog Tryd.f3 false true false false W args v W' := by
  have hW' := hW
  obtain ⟨p, q, hA0, hV, rfl, _, _⟩ := hW
  obtain ⟨rfl, rfl⟩ := trodVars_none hV
  simp only [List.append_nil] at hW'
  have hlt : ∀ x ∈ p, x.block < W.heap.size := fun x hx => hW'.lt x hx
  have hA : DataW.TrodAll enc Tryd.prog W 0 (fun _ => true) true Tryd.f3.params.toList args.toList ds p := hA0
  rw [Tryd.params3] at hA hval
  obtain ⟨v0, vs0, d0, ds0, p0, q0, hargs, rfl, rfl, h0, r0⟩ := trodAll_cons hA
  obtain ⟨rfl, rfl, rfl⟩ := trodAll_nil r0
  obtain rfl : args = #[v0] := by cases args; simp_all
  obtain ⟨S0, rfl⟩ := okWide_string Tryd.underlying9 (hval 0 _ v0 rfl rfl)
  refine (lawReadGraph S0.data.toList W).mono fun e W' ⟨he, hg⟩ => ?_
  subst he
  exact ⟨_, rfl, post_true rfl (by kernel_rfl) rfl (by kernel_rfl) hW' hA0 hg⟩
theorem door_met (os : Os) (args : Array Value) : laidMetH Tryd.prog Rows.fnExactReadGraphRow.laid ((World.doorLaid Tryd.prog 400 os).forCall (fun _ _ => 0) ⟨#[], args, []⟩).memory :=
  laidMetH_of_parts3 (fuel := 8) (laidMet_of_run' 8 (by kernel_rfl) (by kernel_rfl)) (by kernel_rfl) (by kernel_rfl)
set_option maxRecDepth 100000 in
theorem lifted (os : Os) (started : os.Started) (H : Type) (enc : TypeId × Value → H) :
    ReturnsInHanded {} Tryd.checked os 3 .any (fun w args => (Rows.fnExactReadGraphSpec.pre enc Tryd.prog Tryd.f3 [] false w args ∧ laidMetH Tryd.prog Rows.fnExactReadGraphRow.laid w) ∧ sizedMet enc Tryd.prog Tryd.f3 (OpenSpec.ofChange Rows.fnExactReadGraphSpec) false w args) (Rows.fnExactReadGraphSpec.post enc Tryd.prog Tryd.f3 false true false false) := by
  refine returnsInHanded_of_change_and (C := Tryd.checked) (X := fun w _ => laidMetH Tryd.prog Rows.fnExactReadGraphRow.laid w) (fun _ _ _ hh h => h.of_heap hh) own_knob started (by kernel_rfl) Tryd.func3
    (ChangeSpec.witness_shaped (enc := enc) (C := Tryd.checked) (os := os) (X := fun w _ => laidMetH Tryd.prog Rows.fnExactReadGraphRow.laid w) false (World.doorLaid Tryd.prog 400 os) #[.string ByteArray.empty] 8 rfl (World.shaped_of_RefB (by kernel_rfl) (by kernel_rfl)) (by kernel_rfl) (by kernel_rfl) (by kernel_rfl) (door_met os _)) ?_
  intro W base args ds gs before hval0 hW _ _ _ _
  exact contract H enc W base args ds gs before hval0 hW
theorem row_holds : Rows.FnExactReadGraphSaid :=
  OpenClaim.holds_of_wide 3 Tryd.f3 rfl rfl rfl rfl rfl rfl rfl ⟨rfl, rfl, rfl, rfl, rfl⟩ rfl rfl rfl rfl rfl (by kernel_rfl) Tryd.func3 (by kernel_rfl)
    (of_decide_eq_true (by kernel_rfl)) (by unfold Func.isWrapper; first | (rw [if_pos (by decide +kernel)]; kernel_rfl) | (rw [if_neg (by decide +kernel)]; exact ⟨rfl, rfl⟩))
    (fun os started H enc _ => lifted os started H enc)
end rowReadGraph
theorem ReadGraph_holds : Rows.FnExactReadGraphCardSaid :=
  Claim7.holds_tied_plain_at .later [] [.data, .data, .data] true Rows.fnExactReadGraphCard.stood.harness false rowReadGraph.row_holds (fun _ h => by cases h) (by kernel_rfl) (fun _ h => by cases h) fnExactReadGraph_row_tie rfl ⟨rfl, rfl⟩ (by kernel_rfl) rfl
    (fun f fn hf hfn => by
      obtain rfl : f = 3 := Option.some.inj ((show Tryd.prog.funcNamed Rows.fnExactReadGraphRow.func = some 3 by kernel_rfl).symm.trans hf) |>.symm
      obtain rfl : fn = Tryd.f3 := (Option.some.inj (Tryd.func3.symm.trans hfn)).symm
      exact ⟨by kernel_rfl, fun j t ht => by
        rw [Tryd.params3] at ht
        have hm : t ∈ [9] := by simpa using Array.mem_of_getElem? ht
        have hall : ([9].all fun u => !Tryd.prog.wantsStandIn u) = true := by kernel_rfl
        exact (show Tryd.prog.wantsStandIn t = false by simpa using List.all_eq_true.1 hall t hm)⟩)
    (by kernel_rfl)
#print axioms ReadGraph_holds
end Go.Proofs.YtdmdkpjeeajkpaaDoor

