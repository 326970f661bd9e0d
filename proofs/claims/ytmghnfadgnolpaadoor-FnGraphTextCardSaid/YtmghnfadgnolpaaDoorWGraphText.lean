/- FnGraphText: texts of graphs are read. No conditions. -/
import Derived.Test.YtmghnfadgnolpaaDoorLw
import Derived.Test.YtmghnfadgnolpaaDoorRt2
import Derived.Test.YtmghnfadgnolpaaDoorTie
import Derived.Test.YtmghnfadgnolpaaDoorCards
import Derived.SevenTiedAt
import Derived.LaidMore
import Derived.Stop.Joined
import Derived.Deep.RegionHeld3
import Derived.Deep.DeepCutAuto
namespace Go.Proofs.YtmghnfadgnolpaaDoor
open Go.ChangeShapes Go.WideShapes Go.ChangeAt Go.RowKit
theorem str_ne {l : List UInt8} (h : 0 < l.length) : ((⟨l.toArray⟩ : ByteArray).toList == (⟨#[]⟩ : ByteArray).toList) = false := by
  rw [beq_eq_false_iff_ne, ByteArray.toList_eq, ByteArray.toList_eq]
  intro e
  have e2 : l = [] := by simpa using e
  subst e2
  simp at h
theorem str_ne2 {l : List UInt8} (h : 0 < l.length) : ((⟨l.toArray⟩ : ByteArray).toList == ([] : List UInt8)) = false := by
  rw [beq_eq_false_iff_ne, ByteArray.toList_eq]
  intro e
  have e2 : l = [] := by simpa using e
  subst e2
  simp at h
theorem str_ne3 {l : List UInt8} (h : 0 < l.length) : (⟨l.toArray⟩ : ByteArray).toList.isEmpty = false := by
  rw [ByteArray.toList_eq]
  cases l with
  | nil => simp at h
  | cons a t => rfl
set_option maxHeartbeats 4000000 in
theorem lawGraphText (A : Option Addr) (n c : Nat) (hm : n ≤ maxLen) (hc : n ≤ c) (w : World) (hB : RdB w w.heap.size A n) :
    Calls Tryd.prog 3 #[.slice A n c] w fun e w' => e = .returned (.bool true) ∧ Below w.heap.size w w' := by
  unfold maxLen at hm
  by_cases hlen : (n : Int) ≤ 1048576
  · go_enter Tryd.func3, Tryd.ntmps3
    go_wp2_with fail
    refine (drawGraphText A n c (by omega) hc _ hB).mono ?_
    rintro e w1 ⟨A1, c1, l, rfl, h10, hr, hb⟩
    have HL := Lib.hid (Lw.start (c1 := c1) hr hb 25)
    clear hr hb
    have hI := fun W h => implGraphText l A1 c1 (by omega) W h
    have hS := fun W h => specGraphText l A1 c1 (by omega) W h
    have hv := fun W h => implGraphValid l A1 c1 (by omega) W h
    rcases Sw.gvB_cases l with hV | ⟨G, rfl, hG⟩
    · rw [Sw.vText_no hV] at hI hS
      rw [hV] at hv
      clear hV
      obtain ⟨_, hcb, hzb, hrb⟩ := HL.out
      go_wp2_with fail
      refine (hI _ hrb).mono ?_
      rintro e w15 ⟨rfl, hb15⟩
      have HL := Lib.hid (HL.out.next hb15)
      clear hcb hzb hrb hb15
      obtain ⟨_, hcb, hzb, hrb⟩ := HL.out
      go_wp2_with fail
      refine (hS _ hrb).mono ?_
      rintro e w16 ⟨rfl, hb16⟩
      have HL := Lib.hid (HL.out.next hb16)
      clear hcb hzb hrb hb16
      obtain ⟨_, hcb, hzb, hrb⟩ := HL.out
      go_wp2_with fail
      refine (hv _ hrb).mono ?_
      rintro e w17 ⟨rfl, hb17⟩
      have HL := Lib.hid (HL.out.next hb17)
      clear hcb hzb hrb hb17
      obtain ⟨_, hcb, hzb, hrb⟩ := HL.out
      go_wp2_with fail
      refine (alive _).mono ?_
      rintro e w18 ⟨rfl, hb18⟩
      have HL := Lib.hid (HL.out.next hb18)
      clear hcb hzb hrb hb18
      obtain ⟨_, hcb, hzb, hrb⟩ := HL.out
      go_wp2_with fail
      go_ret
      exact ⟨rfl, HL.out.1⟩
    · rw [Sw.toI_len] at hI hS
      clear hv
      obtain ⟨ad, rfl, hL⟩ := HL.out.valid hG
      have HL := Lib.hid hL
      have hn9 := hG.le
      have hn1 := hG.pos
      clear hL
      rw [Sw.toI_len] at HL h10 ⊢
      rw [Sw.vText_yes hG] at hI hS
      have hlen : (Sw.gText G).length ≤ 4611686018427387904 := by have := Sw.tOut_len hn9 G.length; unfold Sw.gText; omega
      have h2 := (Sw.parse_good hG).1
      obtain ⟨hy1, hy2⟩ := Sw.vRd_yes hG rfl
      have hR := fun W => implReadGraph (Sw.gText G) hlen W
      unfold RdPost at hR
      rw [hy1, hy2] at hR
      have hSH := fun A B c d W h1 h2 => sameGraph (Sw.toI G) A B c d (by rw [Sw.toI_len]; omega) W h1 h2
      rw [Sw.toI_len] at hSH
      have hE := str_ne (l := Sw.gText G) (by omega)
      have hE2 := str_ne2 (l := Sw.gText G) (by omega)
      have hE3 := str_ne3 (l := Sw.gText G) (by omega)
      obtain ⟨S, hSe⟩ : ∃ S : ByteArray, S = ⟨(Sw.gText G).toArray⟩ := ⟨_, rfl⟩
      rw [← hSe] at hI hS hR hE hE2 hE3
      clear hSe hy1 hy2 hlen h2
      obtain ⟨_, hcb, hzb, hrb⟩ := HL.out
      go_wp2_with fail
      refine (hI _ hrb.toI).mono ?_
      rintro e w2 ⟨rfl, hb2⟩
      have HL := Lib.hid (HL.out.next hb2)
      clear hcb hzb hrb hb2
      obtain ⟨_, hcb, hzb, hrb⟩ := HL.out
      go_wp2_with fail
      refine (hS _ hrb.toI).mono ?_
      rintro e w3 ⟨rfl, hb3⟩
      have HL := Lib.hid (HL.out.next hb3)
      clear hcb hzb hrb hb3
      obtain ⟨_, hcb, hzb, hrb⟩ := HL.out
      go_wp2_with fail
      refine (hR _).mono ?_
      rintro e w4 ⟨v4, rfl, hO4, hb4⟩
      obtain ⟨A4, c4, rfl, hr4⟩ := hO4.rd
      rw [Sw.toI_len]
      have HL := Lib.hid ((HL.out.next hb4).next (below1 (.cells #[.slice A4 G.length c4] 25)))
      have hcx : (w4.alloc (.cells #[.slice A4 G.length c4] 25)).cell? ⟨w4.heap.size, 0, none⟩ = some (.slice A4 G.length c4) := cell_new _ _ _
      have hrx := hr4.at_ (below1 (.cells #[.slice A4 G.length c4] 25))
      clear hcb hzb hrb hb4 hO4 hr4
      obtain ⟨_, hcb, hzb, hrb⟩ := HL.out
      go_wp2_with fail
      refine (hSH _ _ _ _ _ hrx hrb.toI).mono ?_
      rintro e w5 ⟨rfl, hb5⟩
      have HL := Lib.hid (HL.out.next hb5)
      clear hcb hzb hrb hb5 hcx hrx
      obtain ⟨_, hcb, hzb, hrb⟩ := HL.out
      go_wp2_with fail
      go_ret
      exact ⟨rfl, HL.out.1⟩
  · go_enter Tryd.func3, Tryd.ntmps3
    go_wp2_with fail
    go_ret
    exact ⟨rfl, Below.refl _ _⟩
namespace rowGraphText
theorem contract (H : Type) (enc : TypeId × Value → H) (W : World) (base : Nat) (args : Array Value) (ds gs : List (DataW H)) (before : List MemPlace)
    (hval : ∀ (j : Nat) t v, Tryd.f3.params[j]? = some t → args[j]? = some v → Value.okWide Tryd.prog W .any base t v)
    (hW : DataW.Whole enc Tryd.prog Tryd.f3.params.toList Rows.fnGraphTextSpec.vars false W args.toList ds gs before) :
    Calls Tryd.prog 3 args W fun e W' => ∃ v, e = .returned v ∧ Rows.fnGraphTextSpec.post enc Tryd.prog Tryd.f3 false true false false W args v W' := by
  have hW' := hW
  obtain ⟨p, q, hA0, hV, rfl, _, _⟩ := hW
  obtain ⟨rfl, rfl⟩ := trodVars_none hV
  simp only [List.append_nil] at hW'
  have hlt : ∀ x ∈ p, x.block < W.heap.size := fun x hx => hW'.lt x hx
  have hA : DataW.TrodAll enc Tryd.prog W 0 (fun _ => true) true Tryd.f3.params.toList args.toList ds p := hA0
  rw [Tryd.params3] at hA hval
  obtain ⟨v0, vs0, d0, ds0, p0, q0, hargs, rfl, rfl, h0, r0⟩ := trodAll_cons hA
  obtain ⟨rfl, rfl, rfl⟩ := trodAll_nil r0
  obtain rfl : args = #[v0] := by cases args; simp_all
  obtain ⟨A0, n0, c0, rfl, m0, k0, g0⟩ := open_bytes (hval 0 _ v0 rfl rfl) h0 (fun x hx => hlt x (by simp [hx]))
  refine (lawGraphText A0 n0 c0 m0 k0 W g0).mono fun e W' ⟨he, hg⟩ => ?_
  subst he
  exact ⟨_, rfl, post_true rfl (by kernel_rfl) rfl (by kernel_rfl) hW' hA0 hg⟩
theorem door_met (os : Os) (args : Array Value) : laidMetH Tryd.prog Rows.fnGraphTextRow.laid ((World.doorLaid Tryd.prog 400 os).forCall (fun _ _ => 0) ⟨#[], args, []⟩).memory :=
  laidMetH_of_parts3 (fuel := 8) (laidMet_of_run' 8 (by kernel_rfl) (by kernel_rfl)) (by kernel_rfl) (by kernel_rfl)
set_option maxRecDepth 100000 in
theorem lifted (os : Os) (started : os.Started) (H : Type) (enc : TypeId × Value → H) :
    ReturnsInHanded {} Tryd.checked os 3 .any (fun w args => (Rows.fnGraphTextSpec.pre enc Tryd.prog Tryd.f3 [] false w args ∧ laidMetH Tryd.prog Rows.fnGraphTextRow.laid w) ∧ sizedMet enc Tryd.prog Tryd.f3 (OpenSpec.ofChange Rows.fnGraphTextSpec) false w args) (Rows.fnGraphTextSpec.post enc Tryd.prog Tryd.f3 false true false false) := by
  refine returnsInHanded_of_change_and (C := Tryd.checked) (X := fun w _ => laidMetH Tryd.prog Rows.fnGraphTextRow.laid w) (fun _ _ _ hh h => h.of_heap hh) own_knob started (by kernel_rfl) Tryd.func3
    (ChangeSpec.witness_shaped (enc := enc) (C := Tryd.checked) (os := os) (X := fun w _ => laidMetH Tryd.prog Rows.fnGraphTextRow.laid w) false (World.doorLaid Tryd.prog 400 os) #[.slice none 0 0] 8 rfl (World.shaped_of_RefB (by kernel_rfl) (by kernel_rfl)) (by kernel_rfl) (by kernel_rfl) (by kernel_rfl) (door_met os _)) ?_
  intro W base args ds gs before hval0 hW _ _ _ _
  exact contract H enc W base args ds gs before hval0 hW
theorem row_holds : Rows.FnGraphTextSaid :=
  OpenClaim.holds_of_wide 3 Tryd.f3 rfl rfl rfl rfl rfl rfl rfl ⟨rfl, rfl, rfl, rfl, rfl⟩ rfl rfl rfl rfl rfl (by kernel_rfl) Tryd.func3 (by kernel_rfl)
    (of_decide_eq_true (by kernel_rfl)) (by unfold Func.isWrapper; first | (rw [if_pos (by decide +kernel)]; kernel_rfl) | (rw [if_neg (by decide +kernel)]; exact ⟨rfl, rfl⟩))
    (fun os started H enc _ => lifted os started H enc)
end rowGraphText
theorem GraphText_holds : Rows.FnGraphTextCardSaid :=
  Claim7.holds_tied_plain_at .later [] [.data, .data, .data] true Rows.fnGraphTextCard.stood.harness false rowGraphText.row_holds (fun _ h => by cases h) (by kernel_rfl) (fun _ h => by cases h) fnGraphText_row_tie rfl ⟨rfl, rfl⟩ (by kernel_rfl) rfl
    (fun f fn hf hfn => by
      obtain rfl : f = 3 := Option.some.inj ((show Tryd.prog.funcNamed Rows.fnGraphTextRow.func = some 3 by kernel_rfl).symm.trans hf) |>.symm
      obtain rfl : fn = Tryd.f3 := (Option.some.inj (Tryd.func3.symm.trans hfn)).symm
      exact ⟨by kernel_rfl, fun j t ht => by
        rw [Tryd.params3] at ht
        have hm : t ∈ [22] := by simpa using Array.mem_of_getElem? ht
        have hall : ([22].all fun u => !Tryd.prog.wantsStandIn u) = true := by kernel_rfl
        exact (show Tryd.prog.wantsStandIn t = false by simpa using List.all_eq_true.1 hall t hm)⟩)
    (by kernel_rfl)
#print axioms GraphText_holds
end Go.Proofs.YtmghnfadgnolpaaDoor

