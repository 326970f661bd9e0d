/- Which graph a text is, if it is one: plain Lean. No conditions. -/
import Derived.Test.YtmghnfadgnolpaaDoorMath13
namespace Go.Proofs.YtmghnfadgnolpaaDoor.Sw
theorem gText_inj {G K : List Nat} (hG : GVN G) (hK : GVN K) (h : gText G = gText K) : G = K := by
  obtain ⟨a1, a2, a3, a4, a5⟩ := parse_good hG
  obtain ⟨b1, b2, b3, b4, b5⟩ := parse_good hK
  rw [h] at a1 a2 a5
  have hl : G.length = K.length := by omega
  have q1 := a5 (((gText K).length + 1) / 4) (by omega) (by omega)
  have q2 := b5 (((gText K).length + 1) / 4) (by omega) (by omega)
  exact q1.symm.trans (by rw [hl]; exact q2)
open Classical in
noncomputable def rdG (l : List UInt8) : Option (List Nat) := if h : ∃ G, GVN G ∧ gText G = l then some h.choose else none
theorem rd_yes {G : List Nat} (hG : GVN G) {l : List UInt8} (h : gText G = l) : rdG l = some G := by
  have hex : ∃ G, GVN G ∧ gText G = l := ⟨G, hG, h⟩
  unfold rdG
  rw [dif_pos hex]
  obtain ⟨q1, q2⟩ := hex.choose_spec
  rw [gText_inj q1 hG (q2.trans h.symm)]
theorem rd_no {l : List UInt8} (h : ∀ G, GVN G → gText G ≠ l) : rdG l = none := by
  unfold rdG
  rw [dif_neg (fun ⟨G, h1, h2⟩ => h G h1 h2)]
theorem rd_cases (l : List UInt8) : (∃ G, GVN G ∧ gText G = l ∧ rdG l = some G) ∨ ((∀ G, GVN G → gText G ≠ l) ∧ rdG l = none) := by
  by_cases h : ∃ G, GVN G ∧ gText G = l
  · obtain ⟨G, h1, h2⟩ := h
    exact .inl ⟨G, h1, h2, rd_yes h1 h2⟩
  · have h2 : ∀ G, GVN G → gText G ≠ l := fun G h1 h2 => h ⟨G, h1, h2⟩
    exact .inr ⟨h2, rd_no h2⟩
noncomputable def vRdB (l : List UInt8) : Bool := (rdG l).isSome
noncomputable def vRd (l : List UInt8) : List Int := match rdG l with
  | some G => toI G
  | none => []
theorem vRd_yes {G : List Nat} (hG : GVN G) {l : List UInt8} (h : gText G = l) : vRdB l = true ∧ vRd l = toI G := by unfold vRdB vRd; rw [rd_yes hG h]; exact ⟨rfl, rfl⟩
theorem vRd_no {l : List UInt8} (h : ∀ G, GVN G → gText G ≠ l) : vRdB l = false ∧ vRd l = [] := by unfold vRdB vRd; rw [rd_no h]; exact ⟨rfl, rfl⟩
theorem vRd_len (l : List UInt8) : (vRd l).length ≤ 9 := by
  rcases rd_cases l with ⟨G, h1, h2, _⟩ | ⟨h, _⟩
  · rw [(vRd_yes h1 h2).2, toI_len]; exact h1.le
  · rw [(vRd_no h).2]; simp
theorem no_head {l : List UInt8} (h : l.length < 2 ∨ gb l 0 < 49 ∨ 57 < gb l 0 ∨ gb l 1 ≠ 58) : ∀ G, GVN G → gText G ≠ l := fun G hG e => by
  obtain ⟨a1, a2, a3, _⟩ := parse_good hG
  have := hG.le
  have := hG.pos
  rw [e] at a1 a2 a3
  omega
theorem no_line {l : List UInt8} {n i : Nat} (hn : gb l 0 = 48 + n) (hi : 2 + 4 * i < l.length) (h : ¬ okAt l n i) : ∀ G, GVN G → gText G ≠ l := fun G hG e => by
  obtain ⟨_, a2, _, a4, _⟩ := parse_good hG
  rw [e] at a2 a4
  have : G.length = n := by omega
  exact h (this ▸ a4 i hi)
theorem no_end {l : List UInt8} {n i : Nat} (hn : gb l 0 = 48 + n) (hi : l.length ≤ 2 + 4 * i) (hi2 : i = 0 ∨ 2 + 4 * (i - 1) < l.length) : ∀ G, GVN G → gText G = l → tab n (pF l i) = G := fun G hG e => by
  obtain ⟨_, a2, _, _, a5⟩ := parse_good hG
  rw [e] at a2 a5
  have : G.length = n := by omega
  rw [← this]; exact a5 i hi hi2
end Go.Proofs.YtmghnfadgnolpaaDoor.Sw

