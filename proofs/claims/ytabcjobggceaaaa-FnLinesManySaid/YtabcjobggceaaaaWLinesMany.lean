/- FnLinesMany: every line has two ends. No conditions. -/
import Derived.Test.YtabcjobggceaaaaLw
import Derived.Test.YtabcjobggceaaaaMath7
import Derived.Deep.RegionHeld3
import Derived.Deep.DeepCutAuto
namespace Go.Proofs.Ytabcjobggceaaaa
open Go.ChangeShapes Go.WideShapes Go.ChangeAt Go.RowKit
set_option maxHeartbeats 2000000 in
theorem lawLinesMany (A : Option Addr) (n c : Nat) (hm : n ≤ maxLen) (hc : n ≤ c) (w : World) (hB : RdB w w.heap.size A n) :
    Calls Try.prog 6 #[.slice A n c] w fun e w' => e = .returned (.bool true) ∧ Below w.heap.size w w' := by
  unfold maxLen at hm
  by_cases hlen : (n : Int) ≤ 1048576
  · go_enter Try.func6, Try.ntmps6
    go_wp2_with fail
    refine (drawLinesMany A n c (by omega) hc _ hB).mono ?_
    rintro e w1 ⟨A1, c1, l, rfl, h10, hr, hb⟩
    have HL := Lib.hid (Lw.start (c1 := c1) hr hb 25)
    clear hr hb
    rcases Sw.gvB_cases l with hv | ⟨G, rfl, hG⟩
    · have hV := Sw.vLines_no hv
      have hI := fun W => implLinesMany l A1 c1 (by omega) W
      have hS := fun W => specLinesMany l A1 c1 (by omega) W
      rw [hV] at hI hS
      clear hV
      obtain ⟨_, hcb, hzb, hrb⟩ := HL.out
      go_wp2_with fail
      refine (hI _ hrb).mono ?_
      rintro e w2 ⟨rfl, hb2⟩
      have HL := Lib.hid (HL.out.next hb2)
      clear hcb hzb hrb hb2
      obtain ⟨_, hcb, hzb, hrb⟩ := HL.out
      go_wp2_with fail
      refine (hS _ hrb).mono ?_
      rintro e w3 ⟨rfl, hb3⟩
      have HL := Lib.hid (HL.out.next hb3)
      clear hcb hzb hrb hb3
      obtain ⟨_, hcb, hzb, hrb⟩ := HL.out
      go_wp2_with fail
      refine (implGraphValid_no l A1 c1 (by omega) hv _ hrb).mono ?_
      rintro e w4 ⟨rfl, hb4⟩
      have HL := Lib.hid (HL.out.next hb4)
      clear hcb hzb hrb hb4
      obtain ⟨_, hcb, hzb, hrb⟩ := HL.out
      go_wp2_with fail
      refine (alive _).mono ?_
      rintro e w5 ⟨rfl, hb5⟩
      have HL := Lib.hid (HL.out.next hb5)
      clear hcb hzb hrb hb5
      obtain ⟨_, hcb, hzb, hrb⟩ := HL.out
      go_wp2_with fail
      go_ret
      exact ⟨rfl, HL.out.1⟩
    · obtain ⟨ad, rfl, hL⟩ := HL.out.valid hG
      have HL := Lib.hid hL
      have hn9 := hG.le
      have hn1 := hG.pos
      have hdl := Sw.degs_le hG G.length
      have HW := Lib.hid (fun h => Sw.whole_lines hG h)
      have HEV := Lib.hid (Sw.degs_even hG)
      have hI := fun W => implLinesG G hG ad c1 W
      have hS := fun W => specLinesG G hG ad c1 W
      have hWh := fun W => implWholeG G hG ad c1 W
      obtain ⟨E, hE⟩ : ∃ E, E = Sw.degs G G.length / 2 := ⟨_, rfl⟩
      rw [← hE] at hI hS HW
      have HE := Lib.hid hE
      have hEb : E ≤ 81 := by omega
      clear hL
      rw [Sw.toI_len] at HL h10 ⊢
      clear hE
      obtain ⟨_, hcb, hzb, hrb⟩ := HL.out
      go_wp2_with fail
      refine (hI _ hrb).mono ?_
      rintro e w6 ⟨rfl, hb6⟩
      have HL := Lib.hid (HL.out.next hb6)
      clear hcb hzb hrb hb6
      obtain ⟨_, hcb, hzb, hrb⟩ := HL.out
      go_wp2_with fail
      refine (hS _ hrb).mono ?_
      rintro e w7 ⟨rfl, hb7⟩
      have HL := Lib.hid (HL.out.next hb7)
      clear hcb hzb hrb hb7
      obtain ⟨_, hcb, hzb, hrb⟩ := HL.out
      go_wp2_with fail
      go_loopw [5, 6] (fun s i wr => ∃ k : Nat, k ≤ G.length ∧ i = .int .i64 k ∧ s = .int .i64 (Sw.degs G k : Nat) ∧ Lg w wr w1.heap.size ad c1 G) (fun _ i _ => (G.length - intOf i).toNat)
      case atStart => exact ⟨0, Nat.zero_le _, rfl, rfl, HL.out⟩
      case round =>
        obtain ⟨k, hk, rfl, rfl, hL⟩ := hrel
        have HL := Lib.hid hL
        clear hL hcb hzb hrb
        obtain ⟨_, hcb, hzb, hrb⟩ := HL.out
        by_cases hlt : k < G.length
        · have hd : decide ((k : Int) < (G.length : Int)) = true := by rw [decide_eq_true_eq]; omega
          have hck := hrb.cell k hlt
          have hk40 := lt40 hn9 (hG.lt k)
          have HD := Lib.hid (Sw.degs_succ G k)
          have hdk := Sw.degs_le hG k
          have hcl := Sw.cnt_le (hG.lt k) (by omega)
          go_wp2_with fail
          refine (bits (Sw.nb G k) hk40 _).mono ?_
          rintro e w' ⟨rfl, rfl⟩
          go_wp2_with fail
          go_roundw
          case rel => exact ⟨k + 1, by omega, by go_num, val_i (by rw [HD.out]; omega), HL.out⟩
          case measure => simp [intOf]; omega
        · have hkn : k = G.length := by omega
          subst hkn
          have hd : decide ((G.length : Int) < (G.length : Int)) = false := by rw [decide_eq_false_iff_not]; omega
          have h2 : 2 * (E : Int) = ((Sw.degs G G.length : Nat) : Int) := by have h1 := HE.out; have h2 := HEV.out; omega
          by_cases hw : Sw.pt G 0 = 2 ^ G.length - 1
          · rw [decide_eq_true hw] at hWh
            have hge : (G.length : Int) - 1 ≤ (E : Int) := by have := HW.out hw; omega
            clear hw
            go_wp2_with fail
            refine (hWh _ hrb).mono ?_
            rintro e w9 ⟨rfl, hb9⟩
            have HL := Lib.hid (HL.out.next hb9)
            clear hcb hzb hrb hb9
            obtain ⟨_, hcb, hzb, hrb⟩ := HL.out
            go_wp2_with fail
            go_ret
            exact ⟨rfl, HL.out.1⟩
          · rw [decide_eq_false hw] at hWh
            clear hw
            go_wp2_with fail
            refine (hWh _ hrb).mono ?_
            rintro e w9 ⟨rfl, hb9⟩
            have HL := Lib.hid (HL.out.next hb9)
            clear hcb hzb hrb hb9
            obtain ⟨_, hcb, hzb, hrb⟩ := HL.out
            go_wp2_with fail
            go_ret
            exact ⟨rfl, HL.out.1⟩
  · go_enter Try.func6, Try.ntmps6
    go_wp2_with fail
    go_ret
    exact ⟨rfl, Below.refl _ _⟩
namespace rowLinesMany
theorem contract (H : Type) (enc : TypeId × Value → H) (W : World) (base : Nat) (args : Array Value) (ds gs : List (DataW H)) (before : List MemPlace)
    (hval : ∀ (j : Nat) t v, Try.f6.params[j]? = some t → args[j]? = some v → Value.okWide Try.prog W .any base t v)
    (hW : DataW.Whole enc Try.prog Try.f6.params.toList Rows.fnLinesManySpec.vars false W args.toList ds gs before) :
    Calls Try.prog 6 args W fun e W' => ∃ v, e = .returned v ∧ Rows.fnLinesManySpec.post enc Try.prog Try.f6 false true false false W args v W' := by
  have hW' := hW
  obtain ⟨p, q, hA0, hV, rfl, _, _⟩ := hW
  obtain ⟨rfl, rfl⟩ := trodVars_none hV
  simp only [List.append_nil] at hW'
  have hlt : ∀ x ∈ p, x.block < W.heap.size := fun x hx => hW'.lt x hx
  have hA : DataW.TrodAll enc Try.prog W 0 (fun _ => true) true Try.f6.params.toList args.toList ds p := hA0
  rw [Try.params6] at hA hval
  obtain ⟨v0, vs0, d0, ds0, p0, q0, hargs, rfl, rfl, h0, r0⟩ := trodAll_cons hA
  obtain ⟨rfl, rfl, rfl⟩ := trodAll_nil r0
  obtain rfl : args = #[v0] := by cases args; simp_all
  obtain ⟨A0, n0, c0, rfl, m0, k0, g0⟩ := open_bytes (hval 0 _ v0 rfl rfl) h0 (fun x hx => hlt x (by simp [hx]))
  refine (lawLinesMany A0 n0 c0 m0 k0 W g0).mono fun e W' ⟨he, hg⟩ => ?_
  subst he
  exact ⟨_, rfl, post_true rfl (by kernel_rfl) rfl (by kernel_rfl) hW' hA0 hg⟩
set_option maxRecDepth 100000 in
theorem lifted (os : Os) (started : os.Started) (H : Type) (enc : TypeId × Value → H) :
    ReturnsInHanded {} Try.checked os 6 .any (Rows.fnLinesManySpec.pre6 enc Try.prog Try.f6 Rows.fnLinesManyRow.domain false) (Rows.fnLinesManySpec.post enc Try.prog Try.f6 false true false false) := by
  refine returnsInHanded_of_change (C := Try.checked) own_knob started (by kernel_rfl) Try.func6
    (ChangeSpec.witness6 (enc := enc) (C := Try.checked) false ⟨#[], #[.slice none 0 0], []⟩ 8 (by kernel_rfl) (by kernel_rfl) (by kernel_rfl) (by kernel_rfl)) ?_
  intro W base args ds gs before hval hW _ _
  exact contract H enc W base args ds gs before hval hW
end rowLinesMany
theorem LinesMany_holds : Rows.FnLinesManySaid :=
  OpenClaim.holds_of_wide 6 Try.f6 rfl rfl rfl rfl rfl rfl rfl ⟨rfl, rfl, rfl, rfl, rfl⟩ rfl rfl rfl rfl rfl (by kernel_rfl) Try.func6 (by kernel_rfl)
    (of_decide_eq_true (by kernel_rfl)) (by unfold Func.isWrapper; first | (rw [if_pos (by decide +kernel)]; kernel_rfl) | (rw [if_neg (by decide +kernel)]; exact ⟨rfl, rfl⟩))
    (fun os started H enc _ => rowLinesMany.lifted os started H enc)
#print axioms LinesMany_holds
end Go.Proofs.Ytabcjobggceaaaa

