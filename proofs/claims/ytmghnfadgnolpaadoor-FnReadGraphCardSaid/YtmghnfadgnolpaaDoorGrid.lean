/- GridOf of the program and of the reference, each by its contract. No conditions. -/
import Derived.Test.YtmghnfadgnolpaaDoorRing
namespace Go.Proofs.YtmghnfadgnolpaaDoor
open Go.RowKit
theorem made_zero {w1 : World} {B n : Nat} {v : Value} (h : w1.ownsRow B 3 1 v n (madeCells (Value.int .i64 0).cells (n * 1)).toList) : OwnF w1 B w1.heap.size v n (fun _ => 0) := by
  have := made_ints h
  have e : Sw.toI (Sw.tab n fun _ => 0) = List.replicate n 0 := by
    apply Sw.gat_ext (by rw [toI_tab_len, List.length_replicate])
    intro k hk
    rw [toI_tab_len] at hk
    rw [gat_toI_tab _ hk]
    unfold Sw.gat; simp [hk]
  unfold OwnF
  rw [e]; exact this
/-- the program's row, its result's cell, and what was there before -/
def GI (w wr : World) (hi n : Nat) (f : Nat → Nat) : Prop :=
  OwnF wr (w.heap.size + 1) hi (.slice (some ⟨w.heap.size + 1, 0, none⟩) n n) n f ∧ Below w.heap.size w wr ∧ wr.cell? ⟨w.heap.size, 0, none⟩ = some (.slice none 0 0) ∧ wr.frozen? ⟨w.heap.size, 0, none⟩ = false
theorem GI.join {w wr w2 : World} {hi n : Nat} {f g : Nat → Nat} (h : GI w wr hi n f) (hO : OwnF w2 (w.heap.size + 1) hi (.slice (some ⟨w.heap.size + 1, 0, none⟩) n n) n g) (hgr : wr.grownBy w2 (some (w.heap.size + 1))) : GI w w2 hi n g := by
  obtain ⟨_, hb, hc, hf⟩ := h
  refine ⟨hO, hb.trans (below_of_grown hgr hb.size (fun g h => by injection h with h; omega)), hgr.cell hc (by intro e; injection e with e; simp at e), ?_⟩
  rw [World.frozen?_of_block (hgr.block w.heap.size (World.block_lt_of_cell? wr _ hc) (by intro e; injection e with e; omega))]; exact hf
theorem GI.call {w wr : World} {hi n : Nat} {f : Nat → Nat} (h : GI w wr hi n f) (x y : Nat) (hx : x < n) (hy : y < n) (hxy : x ≠ y) (hn : n ≤ 9) (hf : ∀ k, f k < 2 ^ 9) :
    Calls Tryd.prog 25 #[.slice (some ⟨w.heap.size + 1, 0, none⟩) n n, .int .i64 x, .int .i64 y] wr fun e w' => e = .returned (.tuple #[]) ∧ GI w w' hi n (Sw.join f x y) :=
  (joinPoints wr _ hi n _ n f x y hx hy hxy hn (fun k _ => hf k) h.1).mono fun _ _ ⟨he, hO, hg⟩ => ⟨he, h.join hO hg⟩
theorem OwnI_no (w : World) {p q : Int} (hp : ¬ Sw.gridOk p q) : OwnI (w.alloc (.cells #[.slice none 0 0] 25)) w.heap.size (w.alloc (.cells #[.slice none 0 0] 25)).heap.size (.slice none 0 0) (Sw.vGrid p q) := by rw [Sw.vGrid_no hp]; exact OwnI.nil _
theorem implGridOf_a (p q : Int) (w : World) (hp : ¬ Sw.gridOk p q) (h : p < 1) :
    Calls Tryd.prog 24 #[.int .i64 p, .int .i64 q] w fun e w' => ∃ v, e = .returned (.agg #[v]) ∧ OwnI w' w.heap.size w'.heap.size v (Sw.vGrid p q) ∧ Below w.heap.size w w' := by
  have HN := Lib.hid (OwnI_no w hp)
  clear hp
  go_enter Tryd.func24, Tryd.ntmps24
  go_wp2_with fail
  exact bodyPost_ret (v := .agg #[.slice none 0 0]) (by simp [results, Tryd.results24, go_sem]) rfl ⟨_, rfl, HN.out, below1 _⟩
theorem implGridOf_b (p q : Int) (w : World) (hp : ¬ Sw.gridOk p q) (h1 : 1 ≤ p) (h2 : 9 < p) :
    Calls Tryd.prog 24 #[.int .i64 p, .int .i64 q] w fun e w' => ∃ v, e = .returned (.agg #[v]) ∧ OwnI w' w.heap.size w'.heap.size v (Sw.vGrid p q) ∧ Below w.heap.size w w' := by
  have HN := Lib.hid (OwnI_no w hp)
  clear hp
  go_enter Tryd.func24, Tryd.ntmps24
  go_wp2_with fail
  exact bodyPost_ret (v := .agg #[.slice none 0 0]) (by simp [results, Tryd.results24, go_sem]) rfl ⟨_, rfl, HN.out, below1 _⟩
theorem implGridOf_c (p q : Int) (w : World) (hp : ¬ Sw.gridOk p q) (h1 : 1 ≤ p) (h2 : p ≤ 9) (h3 : q < 1) :
    Calls Tryd.prog 24 #[.int .i64 p, .int .i64 q] w fun e w' => ∃ v, e = .returned (.agg #[v]) ∧ OwnI w' w.heap.size w'.heap.size v (Sw.vGrid p q) ∧ Below w.heap.size w w' := by
  have HN := Lib.hid (OwnI_no w hp)
  clear hp
  go_enter Tryd.func24, Tryd.ntmps24
  go_wp2_with fail
  exact bodyPost_ret (v := .agg #[.slice none 0 0]) (by simp [results, Tryd.results24, go_sem]) rfl ⟨_, rfl, HN.out, below1 _⟩
theorem implGridOf_d (p q : Int) (w : World) (hp : ¬ Sw.gridOk p q) (h1 : 1 ≤ p) (h2 : p ≤ 9) (h3 : 1 ≤ q) (h4 : 9 < q) :
    Calls Tryd.prog 24 #[.int .i64 p, .int .i64 q] w fun e w' => ∃ v, e = .returned (.agg #[v]) ∧ OwnI w' w.heap.size w'.heap.size v (Sw.vGrid p q) ∧ Below w.heap.size w w' := by
  have HN := Lib.hid (OwnI_no w hp)
  clear hp
  go_enter Tryd.func24, Tryd.ntmps24
  go_wp2_with fail
  exact bodyPost_ret (v := .agg #[.slice none 0 0]) (by simp [results, Tryd.results24, go_sem]) rfl ⟨_, rfl, HN.out, below1 _⟩
theorem implGridOf_e (p q : Int) (w : World) (hp : ¬ Sw.gridOk p q) (h1 : 1 ≤ p) (h2 : p ≤ 9) (h3 : 1 ≤ q) (h4 : q ≤ 9) (h5 : 9 < p * q) (h6 : p * q ≤ 81) :
    Calls Tryd.prog 24 #[.int .i64 p, .int .i64 q] w fun e w' => ∃ v, e = .returned (.agg #[v]) ∧ OwnI w' w.heap.size w'.heap.size v (Sw.vGrid p q) ∧ Below w.heap.size w w' := by
  have HN := Lib.hid (OwnI_no w hp)
  clear hp
  go_enter Tryd.func24, Tryd.ntmps24
  go_wp2_with fail
  exact bodyPost_ret (v := .agg #[.slice none 0 0]) (by simp [results, Tryd.results24, go_sem]) rfl ⟨_, rfl, HN.out, below1 _⟩
set_option maxRecDepth 100000 in
theorem implGridOf (p q : Int) (w : World) :
    Calls Tryd.prog 24 #[.int .i64 p, .int .i64 q] w fun e w' => ∃ v, e = .returned (.agg #[v]) ∧ OwnI w' w.heap.size w'.heap.size v (Sw.vGrid p q) ∧ Below w.heap.size w w' := by
  by_cases hp : Sw.gridOk p q
  · obtain ⟨a, b, rfl, rfl, ha, hb, hab⟩ := Sw.gridOk_nat hp
    have h9 := Sw.side_le ha hb hab
    have h9a := h9.1
    have h9b := h9.2
    clear hp h9
    have HV := Lib.hid (Sw.vGrid_yes ha hb hab)
    obtain ⟨N, hN⟩ : ∃ N : Nat, N = a * b := ⟨_, rfl⟩
    have hN9 : N ≤ 9 := by omega
    have hm : (a : Int) * (b : Int) = (N : Int) := by rw [hN]; simp
    have HN := Lib.hid hN
    have HAB := Lib.hid hab
    clear hN hab
    have hmb : (a : Int) * (b : Int) ≤ 9 := by omega
    have hmb0 : 0 ≤ (a : Int) * (b : Int) := by omega
    obtain ⟨i0, hi, hz0, hz1, hz2⟩ := info_parts info_int
    go_enter Tryd.func24, Tryd.ntmps24
    go_wp2_with (at_make; refine wpList_make_full _ rfl _ _ 23 rfl (w.heap.size + 1) 3 i0 (.int .i64 0) 1 Tryd.underlying23 hi hz0 hz1 .i64 .i64 _ _ N rfl rfl rfl rfl (by rw [hz2]; omega) (by unfold maxLen; omega) (by simp) ?_; intro w1 hown hgrow)
    simp only [World.size_alloc] at hown
    have hG : GI w w1 w1.heap.size N (Sw.gridOut a b 0) := by
      have hb1 := below_of_grown hgrow (Nat.le_refl _) (fun g h => by cases h)
      obtain ⟨hb, hc, hz⟩ := box_after hb1
      exact ⟨made_zero hown, hb, hc, free_after hb1⟩
    clear hown hgrow hi hz0 hz1 hz2
    go_loopw [35] (fun i wr => ∃ r : Nat, r ≤ b ∧ i = .int .i64 r ∧ GI w wr w1.heap.size N (Sw.gridOut a b r)) (fun i _ => (b - intOf i).toNat)
    case atStart => exact ⟨0, by omega, rfl, hG⟩
    case round =>
      obtain ⟨r, hr, rfl, hG⟩ := hrel
      have HG := Lib.hid hG
      clear hG
      by_cases hlt : r < b
      · obtain ⟨wo, rfl⟩ : ∃ wo : World, wo = wr := ⟨_, rfl⟩
        obtain ⟨K, hK⟩ : ∃ K : Nat, K = r * a := ⟨_, rfl⟩
        have hKa : K + a ≤ N := by
          have : (r + 1) * a ≤ b * a := Nat.mul_le_mul_right a hlt
          have e := HN.out
          rw [Nat.add_mul, Nat.mul_comm b a] at this; omega
        have hKb : r + 1 < b → K + a + a ≤ N := fun h => by
          have : (r + 2) * a ≤ b * a := Nat.mul_le_mul_right a (by omega)
          have e := HN.out
          rw [Nat.add_mul, Nat.mul_comm b a] at this; omega
        have hmr : (r : Int) * (a : Int) = (K : Int) := by rw [hK]; simp
        have hmr1 : (r : Int) * (a : Int) ≤ 9 := by omega
        have hmr0 : 0 ≤ (r : Int) * (a : Int) := by omega
        have HK := Lib.hid hK
        clear hK
        go_wp2_with fail
        go_loopw [39] (fun i wr => ∃ c : Nat, c ≤ a ∧ i = .int .i64 c ∧ GI w wr w1.heap.size N (Sw.gridIn a b r (Sw.gridOut a b r) c)) (fun i _ => (a - intOf i).toNat)
        case atStart => exact ⟨0, by omega, rfl, HG.out⟩
        case round =>
          obtain ⟨c, hc, rfl, hG⟩ := hrel
          have HI := Lib.hid hG
          clear hG
          by_cases hlc : c < a
          · have HS := Lib.hid (Sw.gridIn_succ a b r (Sw.gridOut a b r) c)
            have hfl := Lib.hid (Sw.gridIn_lt HAB.out hlt (Sw.gridOut_lt HAB.out r (by omega)) c hc)
            have hstep : ∀ f, Sw.gridStep a b r c f = if r + 1 < b then Sw.join (if c + 1 < a then Sw.join f (K + c) (K + c + 1) else f) (K + c) (K + c + a) else (if c + 1 < a then Sw.join f (K + c) (K + c + 1) else f) := by
              intro f; rw [HK.out]; rfl
            have HT := Lib.hid hstep
            clear hstep
            by_cases q1 : c + 1 < a <;> by_cases q2 : r + 1 < b
            · have hk2 := hKb q2
              have HC := Lib.hid (HI.out.call (K + c) (K + c + 1) (by omega) (by omega) (by omega) hN9 hfl.out)
              go_wp2_with fail
              refine HC.out.mono ?_
              rintro e w2 ⟨rfl, hG2⟩
              have hj := Lib.hid (fun k => Sw.join_lt (a := K + c) (b := K + c + 1) (by omega) (by omega) hfl.out k)
              have HC2 := Lib.hid (hG2.call (K + c) (K + c + a) (by omega) (by omega) (by omega) hN9 hj.out)
              clear hG2
              go_wp2_with fail
              refine HC2.out.mono ?_
              rintro e w3 ⟨rfl, hG3⟩
              have HG3 := Lib.hid hG3
              clear hG3
              go_wp2_with fail
              go_roundw
              case rel =>
                refine ⟨c + 1, by omega, by go_num, ?_⟩
                rw [HS.out, HT.out, if_pos q2, if_pos q1]; exact HG3.out
              case measure => simp [intOf]; omega
            · have HC := Lib.hid (HI.out.call (K + c) (K + c + 1) (by omega) (by omega) (by omega) hN9 hfl.out)
              go_wp2_with fail
              refine HC.out.mono ?_
              rintro e w2 ⟨rfl, hG2⟩
              have HG3 := Lib.hid hG2
              clear hG2
              go_wp2_with fail
              go_roundw
              case rel =>
                refine ⟨c + 1, by omega, by go_num, ?_⟩
                rw [HS.out, HT.out, if_neg (by omega), if_pos q1]; exact HG3.out
              case measure => simp [intOf]; omega
            · have hk2 := hKb q2
              have HC := Lib.hid (HI.out.call (K + c) (K + c + a) (by omega) (by omega) (by omega) hN9 hfl.out)
              go_wp2_with fail
              refine HC.out.mono ?_
              rintro e w2 ⟨rfl, hG2⟩
              have HG3 := Lib.hid hG2
              clear hG2
              go_wp2_with fail
              go_roundw
              case rel =>
                refine ⟨c + 1, by omega, by go_num, ?_⟩
                rw [HS.out, HT.out, if_pos q2, if_neg (by omega)]; exact HG3.out
              case measure => simp [intOf]; omega
            · go_wp2_with fail
              go_roundw
              case rel =>
                refine ⟨c + 1, by omega, by go_num, ?_⟩
                rw [HS.out, HT.out, if_neg (by omega), if_neg (by omega)]; exact HI.out
              case measure => simp [intOf]; omega
          · have : c = a := by omega
            subst this
            go_wp2_with fail
            go_roundw
            case rel =>
              refine ⟨r + 1, by omega, by go_num, ?_⟩
              rw [Sw.gridOut_succ]; exact HI.out
            case measure => simp [intOf]; omega
      · have : r = b := by omega
        subst this
        obtain ⟨hO, hb, hc, hfr⟩ := HG.out
        have hO' : OwnI wr (w.heap.size + 1) w1.heap.size (.slice (some ⟨w.heap.size + 1, 0, none⟩) N N) (Sw.vGrid a r) := by rw [HV.out, ← HN.out]; exact hO
        have HF := Lib.hid (fun u => ((hO'.store_far (b := w.heap.size) (by omega) u).up.lo_ (lo' := w.heap.size) (by omega)))
        have HB := Lib.hid (fun u => hb.setCell (p := ⟨w.heap.size, 0, none⟩) (Nat.le_refl _) u)
        have HC := Lib.hid (fun u => World.cell?_setCell_same' wr ⟨w.heap.size, 0, none⟩ u (by rw [hc]; rfl))
        clear hO hO' hb
        go_wp2_with fail
        exact bodyPost_ret (v := .agg #[.slice (some ⟨w.heap.size + 1, 0, none⟩) N N]) (by have q := HC.out (.slice (some ⟨w.heap.size + 1, 0, none⟩) N N); simp [results, Tryd.results24, go_sem, q]) rfl ⟨_, rfl, HF.out _, HB.out _⟩
  · have hcase : p < 1 ∨ (1 ≤ p ∧ 9 < p) ∨ (1 ≤ p ∧ p ≤ 9 ∧ q < 1) ∨ (1 ≤ p ∧ p ≤ 9 ∧ 1 ≤ q ∧ 9 < q) ∨ (1 ≤ p ∧ p ≤ 9 ∧ 1 ≤ q ∧ q ≤ 9 ∧ 9 < p * q ∧ p * q ≤ 81) := by
      by_cases h1 : 1 ≤ p <;> by_cases h2 : p ≤ 9 <;> by_cases h3 : 1 ≤ q <;> by_cases h4 : q ≤ 9
      · refine .inr (.inr (.inr (.inr ⟨h1, h2, h3, h4, ?_, ?_⟩)))
        · by_cases h5 : p * q ≤ 9
          · exact absurd ⟨h1, h2, h3, h4, h5⟩ hp
          · omega
        · have := Int.mul_le_mul h2 h4 (by omega) (by omega); omega
      all_goals omega
    rcases hcase with h | ⟨h1, h2⟩ | ⟨h1, h2, h3⟩ | ⟨h1, h2, h3, h4⟩ | ⟨h1, h2, h3, h4, h5, h6⟩
    · exact implGridOf_a p q w hp h
    · exact implGridOf_b p q w hp h1 h2
    · exact implGridOf_c p q w hp h1 h2 h3
    · exact implGridOf_d p q w hp h1 h2 h3 h4
    · exact implGridOf_e p q w hp h1 h2 h3 h4 h5 h6
end Go.Proofs.YtmghnfadgnolpaaDoor

