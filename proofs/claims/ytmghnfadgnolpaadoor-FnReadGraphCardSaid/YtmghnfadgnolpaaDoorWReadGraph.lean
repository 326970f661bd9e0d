/- FnReadGraph: read texts are canonical. No conditions. -/
import Derived.Test.YtmghnfadgnolpaaDoorLw
import Derived.Test.YtmghnfadgnolpaaDoorDrR
import Derived.Test.YtmghnfadgnolpaaDoorTie
import Derived.Test.YtmghnfadgnolpaaDoorCards
import Derived.SevenTiedAt
import Derived.LaidMore
import Derived.Stop.Joined
import Derived.Deep.RegionHeld3
import Derived.Deep.DeepCutAuto
namespace Go.Proofs.YtmghnfadgnolpaaDoor
open Go.ChangeShapes Go.WideShapes Go.ChangeAt Go.RowKit
theorem text_len {G : List Nat} (_hG : Sw.GVN G) : (Sw.gText G).length = 2 ∨ ∃ m, 1 ≤ m ∧ (Sw.gText G).length = 1 + 4 * m := by
  obtain ⟨L, hL⟩ : ∃ L, L = Sw.lOut G G.length := ⟨_, rfl⟩
  have hF := Sw.enc_facts (Sw.dig G.length ++ [58]) rfl L.reverse
  rw [List.reverse_reverse] at hF
  have hT : Sw.gText G = (Sw.encS (Sw.dig G.length ++ [58]) L).1 := by unfold Sw.gText; rw [Sw.tOut_enc, hL]
  have h := hF.2.1
  rw [← hT] at h
  by_cases q : L = []
  · rw [if_pos q] at h; exact .inl h
  · rw [if_neg q] at h
    exact .inr ⟨L.length, by have : L.length ≠ 0 := fun e => q (List.length_eq_zero_iff.1 e); omega, h⟩
theorem no_more {G K : List Nat} (hG : Sw.GVN G) (hK : Sw.GVN K) (e : Sw.gText K = Sw.gText G ++ [44]) : False := by
  have h := congrArg List.length e
  rw [List.length_append] at h
  have h1 : (Sw.gText K).length = (Sw.gText G).length + 1 := h
  rcases text_len hG with a | ⟨m, _, a⟩ <;> rcases text_len hK with b | ⟨k, _, b⟩ <;> omega
/-- a box at b that holds v, whose row holds L -/
def Ic (W : World) (b lo hi : Nat) (v : Value) (L : List Int) : Prop := W.cell? ⟨b, 0, none⟩ = some v ∧ b < W.heap.size ∧ OwnI W lo hi v L
theorem Ic.new {W : World} {lo hi : Nat} {v : Value} {L : List Int} (h : OwnI W lo hi v L) (t : TypeId) : Ic (W.alloc (.cells #[v] t)) W.heap.size lo hi v L :=
  ⟨cell_new _ _ _, by simp, h.below (below1 _) h.2.1⟩
theorem Ic.next {W W' : World} {b lo hi : Nat} {v : Value} {L : List Int} (h : Ic W b lo hi v L) (hb : Below W.heap.size W W') : Ic W' b lo hi v L :=
  ⟨(hb.cell (p := ⟨b, 0, none⟩) h.2.1).trans h.1, Nat.lt_of_lt_of_le h.2.1 hb.size, h.2.2.below hb h.2.2.2.1⟩
theorem Ic.rd {W : World} {b lo hi n c : Nat} {A : Option Addr} {L : List Int} (h : Ic W b lo hi (.slice A n c) L) : RdI W W.heap.size A L := by
  obtain ⟨A', c', e, hr⟩ := h.2.2.rd
  injection e with e _ _
  subst e; exact hr
set_option maxHeartbeats 4000000 in
theorem lawReadGraph (A : Option Addr) (n c : Nat) (hm : n ≤ maxLen) (hc : n ≤ c) (w : World) (hB : RdB w w.heap.size A n) :
    Calls Tryd.prog 4 #[.slice A n c] w fun e w' => e = .returned (.bool true) ∧ Below w.heap.size w w' := by
  unfold maxLen at hm
  by_cases hlen : (n : Int) ≤ 1048576
  · go_enter Tryd.func4, Tryd.ntmps4
    go_wp2_with fail
    refine (drawReadGraph A n c (by omega) hc _ hB).mono ?_
    rintro e w1 ⟨l, rfl, h1000, hb1⟩
    have hI := fun W => implReadGraph l (by omega) W
    have hS := fun W => specReadGraph l (by omega) W
    have hM := fun W => implReadGraph (l ++ [44]) (by rw [List.length_append]; show l.length + 1 ≤ _; omega) W
    have hlen := Sw.vRd_len l
    have hcase : (Sw.vRdB l = false ∧ Sw.vRd l = []) ∨ (Sw.vRdB l = true ∧ Sw.vText (Sw.vRd l) = l ∧ Sw.vRdB (l ++ [44]) = false ∧ Sw.vRd (l ++ [44]) = []) := by
      rcases Sw.rd_cases l with ⟨G, h1, h2, _⟩ | ⟨h, _⟩
      · obtain ⟨q1, q2⟩ := Sw.vRd_yes h1 h2
        exact .inr ⟨q1, by rw [q2, Sw.vText_yes h1]; exact h2, Sw.vRd_no (fun K hK e => no_more h1 hK (by rw [h2]; exact e))⟩
      · exact .inl (Sw.vRd_no h)
    have hGT := fun A c W h => implGraphText (Sw.vRd l) A c (by omega) W h
    unfold RdPost at hI hS hM
    obtain ⟨L, hL⟩ : ∃ L, L = Sw.vRd l := ⟨_, rfl⟩
    obtain ⟨ok, hok⟩ : ∃ ok, ok = Sw.vRdB l := ⟨_, rfl⟩
    rw [← hL, ← hok] at hI hS hcase
    rw [← hL] at hlen hGT
    have hadd := fun W => run_string_add_lists (P := Tryd.prog) W l [44] (by omega) (by show ((1 : Nat) : Int) ≤ 8388608; decide)
    obtain ⟨S, hSe⟩ : ∃ S : ByteArray, S = ⟨l.toArray⟩ := ⟨_, rfl⟩
    obtain ⟨S2, hS2⟩ : ∃ S : ByteArray, S = ⟨(l ++ [44]).toArray⟩ := ⟨_, rfl⟩
    have HGS : Hid (Sw.vText L = l → (⟨(Sw.vText L).toArray⟩ : ByteArray) = S) := fun h => by rw [h, hSe]
    rw [← hSe] at hI hS
    rw [← hSe, ← hS2] at hadd
    rw [← hSe]
    rw [← hS2] at hM
    have hadd2 : ∀ W, (Op.stringOp .add S ⟨#[44]⟩).run Tryd.prog W = .ok (.string S2) W := hadd
    have HS := Lib.hid hS
    have HI := Lib.hid hI
    have HM := Lib.hid hM
    have HGT := Lib.hid hGT
    have HC := Lib.hid hcase
    have HB1 := Lib.hid hb1
    clear hL hok hS hI hM hSe hS2 hadd hGT hcase hb1
    go_wp2_with fail
    refine (HI.out _).mono ?_
    rintro e w2 ⟨v2, rfl, hO2, hb2⟩
    obtain ⟨A2, c2, rfl, _⟩ := hO2.rd
    have HB2 := Lib.hid (HB1.out.trans ((hb2.trans ((below1 (.cells #[.slice A2 L.length c2] 25)).mono hb2.size)).mono HB1.out.size))
    have X2 := Lib.hid (Ic.new hO2 25)
    have hcx := X2.out.1
    clear hO2 hb2 HB1
    go_wp2_with fail
    refine (HS.out _).mono ?_
    rintro e w3 ⟨v3, rfl, hO3, hb3⟩
    obtain ⟨A3, c3, rfl, _⟩ := hO3.rd
    have hb3' := hb3.trans ((below1 (.cells #[.slice A3 L.length c3] 25)).mono hb3.size)
    have HB3 := Lib.hid (HB2.out.trans (hb3'.mono HB2.out.size))
    have X3 := Lib.hid (X2.out.next hb3')
    have Y3 := Lib.hid (Ic.new hO3 25)
    have hcx := X3.out.1
    have hcy := Y3.out.1
    clear hO3 hb3 hb3' HB2 X2
    go_wp2_with fail
    refine (sameGraph L A2 A3 c2 c3 (by omega) _ X3.out.rd Y3.out.rd).mono ?_
    rintro e w4 ⟨rfl, hb4⟩
    have HB4 := Lib.hid (HB3.out.trans (hb4.mono HB3.out.size))
    have X4 := Lib.hid (X3.out.next hb4)
    have hcx := X4.out.1
    clear hb4 HB3 X3 Y3 hcy
    rcases HC.out with ⟨h1, h2⟩ | ⟨h1, h2, h3, h4⟩
    · subst h1
      subst h2
      simp only [List.length_nil] at hcx
      clear HC hadd2
      go_wp2_with fail
      refine (alive _).mono ?_
      rintro e w5 ⟨rfl, hb5⟩
      have HB5 := Lib.hid (HB4.out.trans (hb5.mono HB4.out.size))
      clear hb5
      go_wp2_with fail
      go_ret
      exact ⟨rfl, HB5.out⟩
    · subst h1
      have hM := HM.out
      rw [h3, h4] at hM
      have hGT := HGT.out
      rw [HGS.out h2] at hGT
      have HM2 := Lib.hid hM
      have HGT2 := Lib.hid hGT
      clear hM hGT h2 h3 h4 HC
      go_wp2_with fail
      refine (HM2.out _).mono ?_
      rintro e w5 ⟨v5, rfl, hO5, hb5⟩
      obtain ⟨A5, c5, rfl, _⟩ := hO5.rd
      simp only [List.length_nil]
      have hb5' := hb5.trans ((below1 (.cells #[.slice A5 0 c5] 25)).mono hb5.size)
      have HB5 := Lib.hid (HB4.out.trans (hb5'.mono HB4.out.size))
      have X5 := Lib.hid (X4.out.next hb5')
      have hcx := X5.out.1
      clear hO5 hb5 hb5' HB4 X4
      go_wp2_with fail
      refine (HGT2.out _ _ _ X5.out.rd).mono ?_
      rintro e w6 ⟨rfl, hb6⟩
      have HB6 := Lib.hid (HB5.out.trans (hb6.mono HB5.out.size))
      clear hb6 hcx
      go_wp2_with fail
      go_ret
      exact ⟨rfl, HB6.out⟩
  · go_enter Tryd.func4, Tryd.ntmps4
    go_wp2_with fail
    go_ret
    exact ⟨rfl, Below.refl _ _⟩
namespace rowReadGraph
theorem contract (H : Type) (enc : TypeId × Value → H) (W : World) (base : Nat) (args : Array Value) (ds gs : List (DataW H)) (before : List MemPlace)
    (hval : ∀ (j : Nat) t v, Tryd.f4.params[j]? = some t → args[j]? = some v → Value.okWide Tryd.prog W .any base t v)
    (hW : DataW.Whole enc Tryd.prog Tryd.f4.params.toList Rows.fnReadGraphSpec.vars false W args.toList ds gs before) :
    Calls Tryd.prog 4 args W fun e W' => ∃ v, e = .returned v ∧ Rows.fnReadGraphSpec.post enc Tryd.prog Tryd.f4 false true false false W args v W' := by
  have hW' := hW
  obtain ⟨p, q, hA0, hV, rfl, _, _⟩ := hW
  obtain ⟨rfl, rfl⟩ := trodVars_none hV
  simp only [List.append_nil] at hW'
  have hlt : ∀ x ∈ p, x.block < W.heap.size := fun x hx => hW'.lt x hx
  have hA : DataW.TrodAll enc Tryd.prog W 0 (fun _ => true) true Tryd.f4.params.toList args.toList ds p := hA0
  rw [Tryd.params4] at hA hval
  obtain ⟨v0, vs0, d0, ds0, p0, q0, hargs, rfl, rfl, h0, r0⟩ := trodAll_cons hA
  obtain ⟨rfl, rfl, rfl⟩ := trodAll_nil r0
  obtain rfl : args = #[v0] := by cases args; simp_all
  obtain ⟨A0, n0, c0, rfl, m0, k0, g0⟩ := open_bytes (hval 0 _ v0 rfl rfl) h0 (fun x hx => hlt x (by simp [hx]))
  refine (lawReadGraph A0 n0 c0 m0 k0 W g0).mono fun e W' ⟨he, hg⟩ => ?_
  subst he
  exact ⟨_, rfl, post_true rfl (by kernel_rfl) rfl (by kernel_rfl) hW' hA0 hg⟩
theorem door_met (os : Os) (args : Array Value) : laidMetH Tryd.prog Rows.fnReadGraphRow.laid ((World.doorLaid Tryd.prog 400 os).forCall (fun _ _ => 0) ⟨#[], args, []⟩).memory :=
  laidMetH_of_parts3 (fuel := 8) (laidMet_of_run' 8 (by kernel_rfl) (by kernel_rfl)) (by kernel_rfl) (by kernel_rfl)
set_option maxRecDepth 100000 in
theorem lifted (os : Os) (started : os.Started) (H : Type) (enc : TypeId × Value → H) :
    ReturnsInHanded {} Tryd.checked os 4 .any (fun w args => (Rows.fnReadGraphSpec.pre enc Tryd.prog Tryd.f4 [] false w args ∧ laidMetH Tryd.prog Rows.fnReadGraphRow.laid w) ∧ sizedMet enc Tryd.prog Tryd.f4 (OpenSpec.ofChange Rows.fnReadGraphSpec) false w args) (Rows.fnReadGraphSpec.post enc Tryd.prog Tryd.f4 false true false false) := by
  refine returnsInHanded_of_change_and (C := Tryd.checked) (X := fun w _ => laidMetH Tryd.prog Rows.fnReadGraphRow.laid w) (fun _ _ _ hh h => h.of_heap hh) own_knob started (by kernel_rfl) Tryd.func4
    (ChangeSpec.witness_shaped (enc := enc) (C := Tryd.checked) (os := os) (X := fun w _ => laidMetH Tryd.prog Rows.fnReadGraphRow.laid w) false (World.doorLaid Tryd.prog 400 os) #[.slice none 0 0] 8 rfl (World.shaped_of_RefB (by kernel_rfl) (by kernel_rfl)) (by kernel_rfl) (by kernel_rfl) (by kernel_rfl) (door_met os _)) ?_
  intro W base args ds gs before hval0 hW _ _ _ _
  exact contract H enc W base args ds gs before hval0 hW
theorem row_holds : Rows.FnReadGraphSaid :=
  OpenClaim.holds_of_wide 4 Tryd.f4 rfl rfl rfl rfl rfl rfl rfl ⟨rfl, rfl, rfl, rfl, rfl⟩ rfl rfl rfl rfl rfl (by kernel_rfl) Tryd.func4 (by kernel_rfl)
    (of_decide_eq_true (by kernel_rfl)) (by unfold Func.isWrapper; first | (rw [if_pos (by decide +kernel)]; kernel_rfl) | (rw [if_neg (by decide +kernel)]; exact ⟨rfl, rfl⟩))
    (fun os started H enc _ => lifted os started H enc)
end rowReadGraph
theorem ReadGraph_holds : Rows.FnReadGraphCardSaid :=
  Claim7.holds_tied_plain_at .later [] [.data, .data, .data] true Rows.fnReadGraphCard.stood.harness false rowReadGraph.row_holds (fun _ h => by cases h) (by kernel_rfl) (fun _ h => by cases h) fnReadGraph_row_tie rfl ⟨rfl, rfl⟩ (by kernel_rfl) rfl
    (fun f fn hf hfn => by
      obtain rfl : f = 4 := Option.some.inj ((show Tryd.prog.funcNamed Rows.fnReadGraphRow.func = some 4 by kernel_rfl).symm.trans hf) |>.symm
      obtain rfl : fn = Tryd.f4 := (Option.some.inj (Tryd.func4.symm.trans hfn)).symm
      exact ⟨by kernel_rfl, fun j t ht => by
        rw [Tryd.params4] at ht
        have hm : t ∈ [22] := by simpa using Array.mem_of_getElem? ht
        have hall : ([22].all fun u => !Tryd.prog.wantsStandIn u) = true := by kernel_rfl
        exact (show Tryd.prog.wantsStandIn t = false by simpa using List.all_eq_true.1 hall t hm)⟩)
    (by kernel_rfl)
#print axioms ReadGraph_holds
end Go.Proofs.YtmghnfadgnolpaaDoor

