/- The draw of a text. Conditions: at most 2^40 bytes. -/
import Derived.Test.YtmghnfadgnolpaaDoorDrG
import Derived.Test.YtmghnfadgnolpaaDoorRs3
namespace Go.Proofs.YtmghnfadgnolpaaDoor
open Go.RowKit
def DrawT (w : World) (e : Ending) (w' : World) : Prop := ∃ l : List UInt8, e = .returned (.string ⟨l.toArray⟩) ∧ l.length ≤ 1000 ∧ Below w.heap.size w w'
theorem vText_len (l : List Int) : (Sw.vText l).length ≤ 400 := by
  rcases Sw.gvB_cases l with h | ⟨G, rfl, hG⟩
  · rw [Sw.vText_no h]; simp
  · rw [Sw.vText_yes hG]; have := Sw.tOut_len hG.le G.length; have := hG.le; unfold Sw.gText; omega
theorem slice_to (l : List UInt8) (b : Nat) (hb : b ≤ l.length) (W : World) : (Instr.slice 9 (.string ⟨l.toArray⟩) none (some (.int .i64 b)) none).run Tryd.prog W = .ok (.string ⟨(Sw.piece l 0 b).toArray⟩) W := by
  rw [run_slice_string_to_if W 9 ⟨l.toArray⟩ .i64 (b : Int) Tryd.underlying9, if_pos ⟨by omega, by rw [sizeL l]; omega⟩, ← piece_mk]
  rfl
theorem five (W : World) : ∀ j, j < 5 → ∃ q : List UInt8, q.length ≤ 1 ∧ (W.alloc (.cells #[.string ⟨#[]⟩, .string ⟨#[48]⟩, .string ⟨#[45]⟩, .string ⟨#[44]⟩, .string ⟨#[51]⟩] 9)).cell? ⟨W.heap.size, j, none⟩ = some (.string ⟨q.toArray⟩) := fun j hj => by
  have h : j = 0 ∨ j = 1 ∨ j = 2 ∨ j = 3 ∨ j = 4 := by omega
  rcases h with rfl | rfl | rfl | rfl | rfl
  · exact ⟨[], by simp, by simp [go_sem]⟩
  · exact ⟨[48], by simp, by simp [go_sem]⟩
  · exact ⟨[45], by simp, by simp [go_sem]⟩
  · exact ⟨[44], by simp, by simp [go_sem]⟩
  · exact ⟨[51], by simp, by simp [go_sem]⟩
set_option maxRecDepth 100000 in
set_option maxHeartbeats 4000000 in
theorem drawReadGraph (A : Option Addr) (n c : Nat) (hn : n ≤ 1099511627776) (hc : n ≤ c) (w : World) (hB : RdB w w.heap.size A n) : Calls Tryd.prog 12 #[.slice A n c] w (DrawT w) := by
  go_enter Tryd.func12, Tryd.ntmps12
  go_wp2_with fail
  refine (l20Open A n c hn hc _ hB).mono ?_
  rintro e W1 ⟨A', m, rfl, hR, hb⟩
  go_wp2_with fail
  refine (l20Graph w.heap.size m c 0 A' 0 (by omega) (by omega) _ hR).mono ?_
  rintro e W2 ⟨A1, n1, c1, p3, l, rfl, h10, hp3, hR2, hg, hl, hr⟩
  subst hl
  have hb2 : Below w.heap.size w W2 := hb.grown hg hb.size (fun q e => by injection e with e; omega)
  clear hR hg hb hB
  go_wp2_with fail
  refine (specGraphText l A1 c1 (by omega) _ hr.rd).mono ?_
  rintro e W3 ⟨rfl, hb3⟩
  have hR3 := hR2.grown (⟨hb3.os, hb3.tape, hb3.output, hb3.size, fun k hk _ => hb3.block k hk⟩ : W2.grownBy W3 none) (fun q e => by cases e)
  have hb3' : Below w.heap.size w W3 := hb2.trans (hb3.mono hb2.size)
  have ht := vText_len l
  obtain ⟨t, hte⟩ : ∃ t, t = Sw.vText l := ⟨_, rfl⟩
  rw [← hte] at ht ⊢
  clear hte hr hR2 hb2 hb3
  have hsz := sizeL t
  have HTO := Lib.hid (fun b h => slice_to t b h)
  have HFR := Lib.hid (fun b h => slice_from t b h)
  obtain ⟨S, hS⟩ : ∃ S : ByteArray, S = ⟨t.toArray⟩ := ⟨_, rfl⟩
  rw [← hS] at hsz HTO HFR ⊢
  have HS := Lib.hid hS
  clear hS
  go_wp2_with fail
  refine (pick w.heap.size m c p3 A' 3 (by omega) (by omega) _ hR3).mono ?_
  rintro e W4 ⟨v4, rfl, v4_0, v4_1, hR4, hg4⟩
  have hb4 : Below w.heap.size w W4 := hb3'.grown hg4 hb3'.size (fun q e => by injection e with e; omega)
  clear hg4 hb3' hR3 v4_1
  by_cases h0 : v4 = 0
  · by_cases hz : 0 < t.length
    · have hd : decide ((0 : Int) < (t.length : Int)) = true := by rw [decide_eq_true_eq]; omega
      subst h0
      go_wp2_with fail
      refine (pick w.heap.size m c (p3 + 1) A' (t.length : Nat) (by omega) (by omega) _ hR4).mono ?_
      rintro e W6 ⟨v6, rfl, v6_0, v6_1, hR6, hg6⟩
      have hb6 : Below w.heap.size w W6 := hb4.grown hg6 hb4.size (fun q e => by injection e with e; omega)
      have v6_2 := v6_1 (by omega)
      obtain ⟨k, rfl⟩ : ∃ k : Nat, v6 = (k : Int) := ⟨v6.toNat, by omega⟩
      have hk : k < t.length := by omega
      have hpa := HTO.out k (by omega)
      have hpb := HFR.out (k + 1) (by omega)
      obtain ⟨PA, hPA⟩ : ∃ P : ByteArray, P = ⟨(Sw.piece t 0 k).toArray⟩ := ⟨_, rfl⟩
      obtain ⟨PB, hPB⟩ : ∃ P : ByteArray, P = ⟨(Sw.piece t (k + 1) t.length).toArray⟩ := ⟨_, rfl⟩
      rw [← hPA] at hpa
      rw [← hPB] at hpb
      have hpb2 : ∀ W, (Instr.slice 9 (.string S) (some (.int .i64 ((k : Int) + 1))) none none).run Tryd.prog W = .ok (.string PB) W := fun W => hpb W
      have HPA := Lib.hid hPA
      have HPB := Lib.hid hPB
      clear hPA hPB hpb
      have hwk : IntKind.i64.wrap ((k : Int) + 1) = ((k + 1 : Nat) : Int) := by rw [IntWalk.i64_in _ (by omega)]; rfl
      clear hg6 v6_1 v6_0 hR4 hb4
      go_wp2_with fail
      refine wp_region_held_drew (S := fun _ => True) (by kernel_rfl) True.intro (fun hHeld => ?_)
      obtain ⟨W7, hW7⟩ : ∃ V, V = W6.drew := ⟨_, rfl⟩
      have hb7 : Below w.heap.size w W7 := by rw [hW7]; exact bdr hb6 1
      have hR7 : Rdr W7 w.heap.size A' m c (p3 + 1 + 1) := by rw [hW7]; exact hR6
      rw [← hW7]
      clear hW7
      refine wpAnyH_take (i := 0) (v := (.string S)) rfl (by kernel_rfl) (by kernel_rfl) (by kernel_rfl) (fun _ _ _ h => h) (Or.inl ⟨by kernel_rfl, fun w hSw => by ((try dsimp only at hSw); go_simp)⟩) (by assumption) ?_
      refine wpAnyH_take (i := 1) (v := (.int .i64 (k : Nat))) rfl (by kernel_rfl) (by kernel_rfl) (by kernel_rfl) (fun _ _ _ h => h) (Or.inl ⟨by kernel_rfl, fun w hSw => by ((try dsimp only at hSw); go_simp)⟩) (by assumption) ?_
      refine wpAnyH_take (i := 2) (v := (.string PA)) rfl (by kernel_rfl) (by kernel_rfl) (by kernel_rfl) (fun _ _ _ h => h) (Or.inl ⟨by kernel_rfl, fun w hSw => by ((try dsimp only at hSw); go_simp)⟩) (by assumption) ?_
      refine wpAnyH_take (i := 4) (v := (.pointer (some ⟨w.heap.size, 0, none⟩))) rfl (by kernel_rfl) (by kernel_rfl) (by kernel_rfl) (fun _ _ _ h => h) (Or.inl ⟨by kernel_rfl, fun w hSw => by ((try dsimp only at hSw); go_simp)⟩) (by assumption) ?_
      refine wpAnyH_take (i := 9) (v := (.string S)) rfl (by kernel_rfl) (by kernel_rfl) (by kernel_rfl) (fun _ _ _ h => h) (Or.inl ⟨by kernel_rfl, fun w hSw => by ((try dsimp only at hSw); go_simp)⟩) (by assumption) ?_
      refine wpAnyH_take (i := 10) (v := (.int .i64 (k : Nat))) rfl (by kernel_rfl) (by kernel_rfl) (by kernel_rfl) (fun _ _ _ h => h) (Or.inl ⟨by kernel_rfl, fun w hSw => by ((try dsimp only at hSw); go_simp)⟩) (by assumption) ?_
      refine wpAnyH_take (i := 11) (v := (.int .i64 ((k + 1 : Nat) : Int))) rfl (by kernel_rfl) (by kernel_rfl) (by kernel_rfl) (fun _ _ _ h => h) (Or.inl ⟨by kernel_rfl, fun w hSw => by ((try dsimp only at hSw); go_simp)⟩) (by assumption) ?_
      refine wpAnyH_take (i := 12) (v := (.string PB)) rfl (by kernel_rfl) (by kernel_rfl) (by kernel_rfl) (fun _ _ _ h => h) (Or.inl ⟨by kernel_rfl, fun w hSw => by ((try dsimp only at hSw); go_simp)⟩) (by assumption) ?_
      refine wpAnyH_ready (rs := [3, 5]) (by kernel_rfl) (by simp) ?_
      refine AllReadyH.cons rfl (fun K0 hK0 => ?_) (AllReadyH.cons rfl (fun K0 hK0 => ?_) AllReadyH.nil)
      · go_simp
        have hA : Below w.heap.size w (W7.alloc (.cells #[.string ⟨#[]⟩, .string ⟨#[48]⟩, .string ⟨#[45]⟩, .string ⟨#[44]⟩, .string ⟨#[51]⟩] 9)) := hb7.trans ((below1 _).mono (by have := hb7.size; exact this))
        have hF := five W7
        have hAg : W7.grownBy (W7.alloc (.cells #[.string ⟨#[]⟩, .string ⟨#[48]⟩, .string ⟨#[45]⟩, .string ⟨#[44]⟩, .string ⟨#[51]⟩] 9)) none := World.grownBy_alloc _ _ _
        obtain ⟨g, hg⟩ : ∃ g, g = W7.heap.size := ⟨_, rfl⟩
        obtain ⟨Wa, hWa⟩ : ∃ V, V = W7.alloc (.cells #[.string ⟨#[]⟩, .string ⟨#[48]⟩, .string ⟨#[45]⟩, .string ⟨#[44]⟩, .string ⟨#[51]⟩] 9) := ⟨_, rfl⟩
        simp only [← hWa, ← hg] at hA hF hAg ⊢
        have HG : Hid (g = W7.heap.size) := hg
        clear hWa hg
        refine hK0.out _ _ True.intro (fun hHeld2 => ?_)
        clear hK0 K0
        have hRa := hR7.grown hAg (fun q e => by cases e)
        refine wpAnyH_ready (rs := [5]) (by kernel_rfl) (by simp) ?_
        refine AllReadyH.cons rfl (fun K0 hK0 => ?_) AllReadyH.nil
        go_simp
        refine (pick w.heap.size m c (p3 + 1 + 1) A' 5 (by omega) (by omega) _ hRa).mono ?_
        rintro e W8 ⟨v8, rfl, v8_0, v8_1, hR8, hg8⟩
        have v8_5 := v8_1 (by omega)
        have hb8 : Below w.heap.size w W8 := hA.grown hg8 (by have := hA.size; exact this) (fun q e => by injection e with e; omega)
        try go_wp2_with fail
        refine hK0.out _ _ True.intro (fun hHeld2 => ?_)
        clear hK0 K0
        have hF8 : ∀ j, j < 5 → ∃ q : List UInt8, q.length ≤ 1 ∧ W8.cell? ⟨g, j, none⟩ = some (.string ⟨q.toArray⟩) := fun j hj => by obtain ⟨q, h1, h2⟩ := hF j hj; exact ⟨q, h1, hg8.cell h2 (by intro e; injection e with e; have := HG.out; have := hR7.2.2.2.2.2; simp at e; omega)⟩
        have hwv : v8 = ((v8.toNat : Nat) : Int) := by omega
        obtain ⟨j, hj⟩ : ∃ j : Nat, v8 = (j : Int) := ⟨_, hwv⟩
        subst hj
        clear hwv v8_1 v8_0
        refine wpAnyH_take (i := 6) (v := (.pointer (some ⟨g, j, none⟩))) rfl (by kernel_rfl) (by kernel_rfl) (by kernel_rfl) (fun _ _ _ h => h) (Or.inl ⟨by kernel_rfl, fun w hSw => by ((try dsimp only at hSw); go_simp)⟩) (by assumption) ?_
        obtain ⟨q, hq, hcq⟩ := hF8 j (by omega)
        have hs1 := fun W => run_string_add_lists (P := Tryd.prog) W (Sw.piece t 0 k) q (by have := Sw.piece_len t 0 k; omega) (by omega)
        have hs2 := fun W => run_string_add_lists (P := Tryd.prog) W (Sw.piece t 0 k ++ q) (Sw.piece t (k + 1) t.length) (by have := Sw.piece_len t 0 k; rw [List.length_append]; omega) (by have := Sw.piece_len t (k + 1) t.length; omega)
        have HLN : Hid ((Sw.piece t 0 k ++ q ++ Sw.piece t (k + 1) t.length).length ≤ 1000) := by have := Sw.piece_len t 0 k; have := Sw.piece_len t (k + 1) t.length; (show _ ≤ _); rw [List.length_append, List.length_append]; omega
        obtain ⟨Q, hQ⟩ : ∃ Q : ByteArray, Q = ⟨q.toArray⟩ := ⟨_, rfl⟩
        obtain ⟨L1, hL1⟩ : ∃ L, L = Sw.piece t 0 k ++ q := ⟨_, rfl⟩
        rw [← hL1] at hs1 hs2 HLN
        obtain ⟨L2, hL2⟩ : ∃ L, L = L1 ++ Sw.piece t (k + 1) t.length := ⟨_, rfl⟩
        rw [← hL2] at hs2 HLN
        rw [← HPA.out] at hs1
        rw [← HPB.out] at hs2
        rw [← hQ] at hs1 hcq
        obtain ⟨Q1, hQ1⟩ : ∃ Q : ByteArray, Q = ⟨L1.toArray⟩ := ⟨_, rfl⟩
        rw [← hQ1] at hs1 hs2
        clear hL1 hL2 hQ hQ1
        refine wpAnyH_ready (rs := [7]) (by kernel_rfl) (by simp) ?_
        refine AllReadyH.cons rfl (fun K0 hK0 => ?_) AllReadyH.nil
        go_simp
        refine hK0.out _ _ True.intro (fun hHeld2 => ?_)
        clear hK0 K0
        refine wpAnyH_take (i := 8) (v := (.string Q1)) rfl (by kernel_rfl) (by kernel_rfl) (by kernel_rfl) (fun _ _ _ h => h) (Or.inl ⟨by kernel_rfl, fun w hSw => by ((try dsimp only at hSw); go_simp)⟩) (by assumption) ?_
        refine wpAnyH_take (i := 13) (v := (.string ⟨L2.toArray⟩)) rfl (by kernel_rfl) (by kernel_rfl) (by kernel_rfl) (fun _ _ _ h => h) (Or.inl ⟨by kernel_rfl, fun w hSw => by ((try dsimp only at hSw); go_simp)⟩) (by assumption) ?_
        refine wpAnyH_take (i := 14) (v := (.string ⟨L2.toArray⟩)) rfl (by kernel_rfl) (by kernel_rfl) (by kernel_rfl) (fun _ _ _ h => h) (Or.inl ⟨by kernel_rfl, fun w hSw => by ((try dsimp only at hSw); go_simp)⟩) (by assumption) ?_
        refine wpAnyH_done (by kernel_rfl) ?_ _
        go_wp2_with fail
        go_ret
        exact ⟨_, rfl, HLN.out, hb8⟩
      · go_simp
        refine (pick w.heap.size m c (p3 + 1 + 1) A' 5 (by omega) (by omega) _ hR7).mono ?_
        rintro e W8 ⟨v8, rfl, v8_0, v8_1, hR8, hg8⟩
        have v8_5 := v8_1 (by omega)
        have hb8 : Below w.heap.size w W8 := hb7.grown hg8 (by have := hb7.size; exact this) (fun q e => by injection e with e; omega)
        try go_wp2_with fail
        refine hK0.out _ _ True.intro (fun hHeld2 => ?_)
        clear hK0 K0
        refine wpAnyH_ready (rs := [3]) (by kernel_rfl) (by simp) ?_
        refine AllReadyH.cons rfl (fun K0 hK0 => ?_) AllReadyH.nil
        go_simp
        have hA : Below w.heap.size w (W8.alloc (.cells #[.string ⟨#[]⟩, .string ⟨#[48]⟩, .string ⟨#[45]⟩, .string ⟨#[44]⟩, .string ⟨#[51]⟩] 9)) := hb8.trans ((below1 _).mono (by have := hb8.size; exact this))
        have hF := five W8
        have hAg : W8.grownBy (W8.alloc (.cells #[.string ⟨#[]⟩, .string ⟨#[48]⟩, .string ⟨#[45]⟩, .string ⟨#[44]⟩, .string ⟨#[51]⟩] 9)) none := World.grownBy_alloc _ _ _
        obtain ⟨g, hg⟩ : ∃ g, g = W8.heap.size := ⟨_, rfl⟩
        obtain ⟨Wa, hWa⟩ : ∃ V, V = W8.alloc (.cells #[.string ⟨#[]⟩, .string ⟨#[48]⟩, .string ⟨#[45]⟩, .string ⟨#[44]⟩, .string ⟨#[51]⟩] 9) := ⟨_, rfl⟩
        simp only [← hWa, ← hg] at hA hF hAg ⊢
        have HG : Hid (g = W8.heap.size) := hg
        clear hWa hg
        refine hK0.out _ _ True.intro (fun hHeld2 => ?_)
        clear hK0 K0
        have hwv : v8 = ((v8.toNat : Nat) : Int) := by omega
        obtain ⟨j, hj⟩ : ∃ j : Nat, v8 = (j : Int) := ⟨_, hwv⟩
        subst hj
        clear hwv v8_1 v8_0
        refine wpAnyH_take (i := 6) (v := (.pointer (some ⟨g, j, none⟩))) rfl (by kernel_rfl) (by kernel_rfl) (by kernel_rfl) (fun _ _ _ h => h) (Or.inl ⟨by kernel_rfl, fun w hSw => by ((try dsimp only at hSw); go_simp)⟩) (by assumption) ?_
        obtain ⟨q, hq, hcq⟩ := hF j (by omega)
        have hs1 := fun W => run_string_add_lists (P := Tryd.prog) W (Sw.piece t 0 k) q (by have := Sw.piece_len t 0 k; omega) (by omega)
        have hs2 := fun W => run_string_add_lists (P := Tryd.prog) W (Sw.piece t 0 k ++ q) (Sw.piece t (k + 1) t.length) (by have := Sw.piece_len t 0 k; rw [List.length_append]; omega) (by have := Sw.piece_len t (k + 1) t.length; omega)
        have HLN : Hid ((Sw.piece t 0 k ++ q ++ Sw.piece t (k + 1) t.length).length ≤ 1000) := by have := Sw.piece_len t 0 k; have := Sw.piece_len t (k + 1) t.length; (show _ ≤ _); rw [List.length_append, List.length_append]; omega
        obtain ⟨Q, hQ⟩ : ∃ Q : ByteArray, Q = ⟨q.toArray⟩ := ⟨_, rfl⟩
        obtain ⟨L1, hL1⟩ : ∃ L, L = Sw.piece t 0 k ++ q := ⟨_, rfl⟩
        rw [← hL1] at hs1 hs2 HLN
        obtain ⟨L2, hL2⟩ : ∃ L, L = L1 ++ Sw.piece t (k + 1) t.length := ⟨_, rfl⟩
        rw [← hL2] at hs2 HLN
        rw [← HPA.out] at hs1
        rw [← HPB.out] at hs2
        rw [← hQ] at hs1 hcq
        obtain ⟨Q1, hQ1⟩ : ∃ Q : ByteArray, Q = ⟨L1.toArray⟩ := ⟨_, rfl⟩
        rw [← hQ1] at hs1 hs2
        clear hL1 hL2 hQ hQ1
        refine wpAnyH_ready (rs := [7]) (by kernel_rfl) (by simp) ?_
        refine AllReadyH.cons rfl (fun K0 hK0 => ?_) AllReadyH.nil
        go_simp
        refine hK0.out _ _ True.intro (fun hHeld2 => ?_)
        clear hK0 K0
        refine wpAnyH_take (i := 8) (v := (.string Q1)) rfl (by kernel_rfl) (by kernel_rfl) (by kernel_rfl) (fun _ _ _ h => h) (Or.inl ⟨by kernel_rfl, fun w hSw => by ((try dsimp only at hSw); go_simp)⟩) (by assumption) ?_
        refine wpAnyH_take (i := 13) (v := (.string ⟨L2.toArray⟩)) rfl (by kernel_rfl) (by kernel_rfl) (by kernel_rfl) (fun _ _ _ h => h) (Or.inl ⟨by kernel_rfl, fun w hSw => by ((try dsimp only at hSw); go_simp)⟩) (by assumption) ?_
        refine wpAnyH_take (i := 14) (v := (.string ⟨L2.toArray⟩)) rfl (by kernel_rfl) (by kernel_rfl) (by kernel_rfl) (fun _ _ _ h => h) (Or.inl ⟨by kernel_rfl, fun w hSw => by ((try dsimp only at hSw); go_simp)⟩) (by assumption) ?_
        refine wpAnyH_done (by kernel_rfl) ?_ _
        go_wp2_with fail
        go_ret
        exact ⟨_, rfl, HLN.out, hA⟩
    · have hz0 : t.length = 0 := by omega
      have hd : decide ((0 : Int) < (t.length : Int)) = false := by rw [decide_eq_false_iff_not]; omega
      subst h0
      rw [HS.out]
      go_wp2_with fail
      go_ret
      exact ⟨t, rfl, by omega, hb4⟩
  · rw [HS.out]
    go_wp2_with fail
    go_ret
    exact ⟨t, rfl, by omega, hb4⟩
end Go.Proofs.YtmghnfadgnolpaaDoor

