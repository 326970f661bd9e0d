/- RankOf of the program and of the reference, each by its contract. No conditions. -/
import Derived.Test.YtooohgjmomhjoaaJoin
import Derived.Test.YtooohgjmomhjoaaMath3
import Derived.Deep.AppendLies
import Derived.Deep.RegionLaw
namespace Go.Proofs.Ytooohgjmomhjoaa
open Go.RowKit
theorem firstWith (w : World) (A : Option Addr) (n cap : Nat) (f : Nat → Nat) (c l : Nat) (hn : n ≤ 9) (hl : l < 9) (hc : c < 2 ^ n) (hf : ∀ k, k < n → f k < 2 ^ 9) (hr : RdI w w.heap.size A (Sw.toI (Sw.tab n f))) :
    Calls Try.prog 37 #[.slice A n cap, .int .i64 c, .int .i64 l] w fun e w' => e = .returned (.int .i64 (Sw.pickI n f c l)) ∧ w = w' := by
  have hc9 := Sw.pow29 hn
  go_enter Try.func37, Try.ntmps37
  go_wp2
  go_loop [11] (fun i => ∃ k : Nat, k ≤ n ∧ i = .int .i64 k ∧ ∀ j, j < k → ¬ ((f j).testBit l = true ∧ c.testBit j = false)) (fun i => (n - intOf i).toNat)
  case atStart => exact ⟨0, by omega, rfl, fun j hj => by omega⟩
  case round =>
    obtain ⟨k, hk, rfl, ho⟩ := hrel
    have HO := Lib.hid ho
    clear ho
    by_cases hlt : k < n
    · obtain ⟨ad, rfl, hb, hcell⟩ := hr k (by rw [toI_tab_len]; exact hlt)
      rw [gat_toI_tab f hlt] at hcell
      have hfk := hf k hlt
      rcases shr_bit (f k) l (by omega) with ⟨q1, hb1⟩ | ⟨q1, hb1⟩
      · rcases shr_bit c k (by omega) with ⟨q2, hb2⟩ | ⟨q2, hb2⟩
        · have HN : Hid (¬ ((f k).testBit l = true ∧ c.testBit k = false)) := fun h => by rw [q2] at h; exact absurd h.2 (by simp)
          clear q1 q2
          go_wp2
          go_round
          case rel =>
            refine ⟨k + 1, by omega, by go_num, fun j hj => ?_⟩
            rcases Nat.lt_succ_iff_lt_or_eq.1 hj with q | q
            · exact HO.out j q
            · subst q; exact HN.out
          case measure => simp [intOf]; omega
        · have HF : Hid (Sw.pickI n f c l = (k : Int)) := Sw.pickI_some (Sw.pickF_some.2 ⟨hlt, q1, q2, HO.out⟩)
          clear q1 q2
          go_wp2
          go_ret
          exact ⟨ret_i HF.out.symm, rfl⟩
      · have HN : Hid (¬ ((f k).testBit l = true ∧ c.testBit k = false)) := fun h => by rw [q1] at h; exact absurd h.1 (by simp)
        clear q1
        go_wp2
        go_round
        case rel =>
          refine ⟨k + 1, by omega, by go_num, fun j hj => ?_⟩
          rcases Nat.lt_succ_iff_lt_or_eq.1 hj with q | q
          · exact HO.out j q
          · subst q; exact HN.out
        case measure => simp [intOf]; omega
    · have : k = n := by omega
      subst this
      have HF : Hid (Sw.pickI k f c l = -1) := Sw.pickI_none (Sw.pickF_none.2 HO.out)
      go_wp2
      go_ret
      exact ⟨ret_i HF.out.symm, rfl⟩
/-- the call's own copy of the rows, and what was there before -/
def RI (w wr : World) (hi n : Nat) (f : Nat → Nat) : Prop := OwnF wr w.heap.size hi (.slice (some ⟨w.heap.size, 0, none⟩) n n) n f ∧ Below w.heap.size w wr ∧ w.heap.size < hi
theorem RI.cells {w wr : World} {hi n : Nat} {f : Nat → Nat} (h : RI w wr hi n f) (k : Nat) (hk : k < n) : wr.cell? ⟨w.heap.size, k, none⟩ = some (.int .i64 (f k : Nat)) ∧ wr.frozen? ⟨w.heap.size, k, none⟩ = false := by
  obtain ⟨g', c', e, _, _, hc⟩ := h.1.form (by omega)
  injection e with e1 _ _
  injection e1 with e1
  injection e1 with e1 _ _
  subst e1
  exact hc k hk
theorem RI.put {w wr : World} {hi n : Nat} {f : Nat → Nat} (h : RI w wr hi n f) (k x : Nat) (y : Int) (hy : y = (x : Nat)) : RI w (wr.setCell ⟨w.heap.size, k, none⟩ (.int .i64 y)) hi n (fun j => if j = k then x else f j) := by
  subst hy
  obtain ⟨hO, hb, hz⟩ := h
  obtain ⟨h1, h2⟩ := hO.set k x
  exact ⟨h1, hb.trans (below_of_grown h2 hb.size (fun g h => by injection h with h; omega)), hz⟩
theorem RI.draw {w wr : World} {hi n : Nat} {f : Nat → Nat} (h : RI w wr hi n f) : RI w wr.drew hi n f := ⟨h.1, bdr h.2.1 1, h.2.2⟩
theorem RI.rd {w wr : World} {hi n : Nat} {f : Nat → Nat} (h : RI w wr hi n f) : RdI wr wr.heap.size (some ⟨w.heap.size, 0, none⟩) (Sw.toI (Sw.tab n f)) := by
  obtain ⟨A, c, e, hr⟩ := h.1.rd
  injection e with e1 e2 _
  subst e1
  exact hr
theorem RI.congr {w wr : World} {hi n : Nat} {f g : Nat → Nat} (h : RI w wr hi n f) (e : ∀ k, k < n → f k = g k) : RI w wr hi n g := by
  obtain ⟨hO, hb, hz⟩ := h
  refine ⟨?_, hb, hz⟩
  unfold OwnF at hO ⊢
  rw [Sw.tab_congr e] at hO; exact hO
theorem then_on {F : Exit → Act → World → Prop} {e : Exit} {a : Act} {W : World} (R : World → Prop) (h : R W) (k : ∀ w2, R w2 → F e a w2) : F e a W := k W h
set_option maxRecDepth 100000 in
theorem implRankOf (l : List Int) (A : Option Addr) (cp : Nat) (hl : l.length ≤ 1099511627776) (w : World) (hr : RdI w w.heap.size A l) :
    Calls Try.prog 18 #[.slice A l.length cp] w fun e w' => e = .returned (.int .i64 (Sw.vRank l)) ∧ Below w.heap.size w w' := by
  by_cases h9 : l.length ≤ 9
  · obtain ⟨n, hn⟩ : ∃ n, n = l.length := ⟨_, rfl⟩
    have HN := Lib.hid hn
    rw [← hn] at h9 hl ⊢
    clear hn
    obtain ⟨i0, hi, hz0, hz1, hz2⟩ := info_parts info_int
    go_enter Try.func18, Try.ntmps18
    go_wp2_with (at_make; refine wpList_make_full _ rfl _ _ 23 rfl w.heap.size 3 i0 (.int .i64 0) 1 Try.underlying23 hi hz0 hz1 .i64 .i64 _ _ n rfl rfl rfl rfl (by rw [hz2]; omega) (by unfold maxLen; omega) (Nat.le_refl _) ?_; intro w1 hown hgrow)
    have hs1 := (World.ownsRow.lt hown w.heap.size rfl).2
    have hb := below_of_grown (B := w.heap.size) hgrow (Nat.le_refl _) (fun g h => by cases h)
    have hR : RI w w1 w1.heap.size n (fun j => if j < 0 then Sw.nb (Sw.toN l) j else 0) := by
      refine ⟨?_, hb, hs1⟩
      have := made_ints hown
      have e : Sw.toI (Sw.tab n fun j => if j < 0 then Sw.nb (Sw.toN l) j else 0) = List.replicate n 0 := by
        apply Sw.gat_ext (by rw [toI_tab_len, List.length_replicate])
        intro k hk
        rw [toI_tab_len] at hk
        rw [gat_toI_tab _ hk]
        unfold Sw.gat; simp [hk]
      unfold OwnF
      rw [e]; exact this
    clear hown hgrow hi hz0 hz1 hz2 hb
    go_loopw [18] (fun i wr => ∃ k : Nat, k ≤ n ∧ i = .int .i64 k ∧ RI w wr w1.heap.size n (fun j => if j < k then Sw.nb (Sw.toN l) j else 0) ∧ ∀ j, j < k → 0 ≤ Sw.gat l j ∧ Sw.gat l j < 512) (fun i _ => (n - intOf i).toNat)
    case atStart => exact ⟨0, by omega, rfl, hR, fun j hj => by omega⟩
    case round =>
      obtain ⟨k, hk, rfl, hR, ho⟩ := hrel
      have HO := Lib.hid ho
      have HR := Lib.hid hR
      clear ho hR
      by_cases hlt : k < n
      · obtain ⟨ad, rfl, hbb, hc⟩ := (hr.below HR.out.2.1) k (by rw [← HN.out]; exact hlt)
        obtain ⟨hck, hfk⟩ := HR.out.cells k hlt
        by_cases g0 : 0 ≤ Sw.gat l k
        · by_cases g1 : Sw.gat l k < 512
          · go_wp2_with fail
            go_roundw
            case rel =>
              refine ⟨k + 1, by omega, by go_num, ?_, fun j hj => ?_⟩
              · refine (HR.out.put k (Sw.nb (Sw.toN l) k) _ (Sw.nb_toN (by rw [← HN.out]; exact hlt) g0).symm).congr fun j _ => ?_
                by_cases q : j = k
                · subst q; rw [if_pos rfl, if_pos (by omega)]
                · rw [if_neg q]
                  by_cases r : j < k
                  · rw [if_pos r, if_pos (by omega)]
                  · rw [if_neg r, if_neg (by omega)]
              · rcases Nat.lt_succ_iff_lt_or_eq.1 hj with q | q
                · exact HO.out j q
                · subst q; exact ⟨g0, g1⟩
            case measure => simp [intOf]; omega
          · have HV : Hid (Sw.vRank l = -1) := Sw.vRank_no fun h => g1 (h.2 k (by rw [← HN.out]; exact hlt)).2
            go_wp2_with fail
            go_ret
            exact ⟨ret_i HV.out.symm, HR.out.2.1⟩
        · have HV : Hid (Sw.vRank l = -1) := Sw.vRank_no fun h => g0 (h.2 k (by rw [← HN.out]; exact hlt)).1
          go_wp2_with fail
          go_ret
          exact ⟨ret_i HV.out.symm, HR.out.2.1⟩
      · have : k = n := by omega
        subst this
        have hok : Sw.okRows l := ⟨by rw [← HN.out]; exact h9, fun j hj => HO.out j (by rw [HN.out]; exact hj)⟩
        have HV := Lib.hid (Sw.vRank_yes hok)
        have hf : ∀ j, j < k → Sw.nb (Sw.toN l) j < 2 ^ 9 := fun j hj => Sw.nb_toN_lt hok j (by rw [← HN.out]; exact hj)
        obtain ⟨f, hff⟩ : ∃ f, f = Sw.nb (Sw.toN l) := ⟨_, rfl⟩
        have hR : RI w wr w1.heap.size k (Sw.rstK k f 0).1 := by
          refine HR.out.congr fun j hj => ?_
          show _ = f j
          rw [if_pos hj, hff]
        rw [← hff] at hf HV
        have HI := Lib.hid (Sw.rinv 9 k f hf)
        clear hff hok hf HO HR
        rw [← HN.out] at HV
        go_wp2_with fail
        go_loopw [6, 34] (fun c i wr => ∃ t : Nat, t ≤ 9 ∧ i = .int .i64 t ∧ c = .int .i64 ((Sw.rstK k f t).2 : Nat) ∧ RI w wr w1.heap.size k (Sw.rstK k f t).1) (fun _ i _ => (9 - intOf i).toNat)
        case atStart => exact ⟨0, by omega, rfl, rfl, hR⟩
        case round =>
          obtain ⟨t, ht, rfl, rfl, hR⟩ := hrel
          by_cases hlt : t < 9
          · have hI := HI.out t
            have hsm := hI.small
            have hcl := hI.lt
            have hst0 := Lib.hid (fun h => Sw.rstK_none (n := k) (l := t) (f := f) h)
            have hst1 := Lib.hid (fun p h => Sw.rstK_some (n := k) (l := t) (p := p) (f := f) h)
            clear hI
            obtain ⟨g, hg⟩ : ∃ g, g = (Sw.rstK k f t).1 := ⟨_, rfl⟩
            obtain ⟨c, hc⟩ : ∃ c, c = (Sw.rstK k f t).2 := ⟨_, rfl⟩
            rw [← hg] at hsm hR
            rw [← hc] at hcl ⊢
            rw [← hg, ← hc] at hst0 hst1
            have HR := Lib.hid hR
            have Hg := Lib.hid hg
            have Hc := Lib.hid hc
            clear hg hc hR
            have hcl9 : c < 512 := Nat.lt_of_lt_of_le hcl (Sw.pow29 h9)
            have hC := firstWith wr (some ⟨w.heap.size, 0, none⟩) k k g c t h9 hlt hcl hsm HR.out.rd
            cases hp : Sw.pickF k g c t with
            | none =>
              rw [Sw.pickI_none hp] at hC
              have HP := Lib.hid hp
              clear hp
              go_wp2_with fail
              refine hC.mono ?_
              rintro e w2 ⟨rfl, rfl⟩
              go_wp2_with fail
              go_roundw
              case rel =>
                have e := hst0.out HP.out
                refine ⟨t + 1, by omega, by go_num, ?_, ?_⟩
                · rw [e, ← Hc.out]
                · rw [e, ← Hg.out]; exact HR.out
              case measure => simp [intOf]; omega
            | some p =>
              rw [Sw.pickI_some hp] at hC
              obtain ⟨hpk, _, _, _⟩ := Sw.pickF_some.1 hp
              have HP := Lib.hid (hst1.out p hp)
              clear hp
              have hpw : (2 : Int) ^ p ≤ 512 := pow9 (by omega)
              have hpw1 := pow1 p
              have hwp : IntKind.i64.wrap ((2 : Int) ^ p) = 2 ^ p := IntWalk.i64_in _ (by omega)
              have hor : bits .or .i64 (c : Int) ((2 : Int) ^ p) = ((c ||| 2 ^ p : Nat) : Int) := by
                rw [pow_nat]; exact i64_or _ _ (by omega) (lt63 (Nat.le_refl 9) (Nat.lt_of_lt_of_le (Sw.two_lt' hpk) (Sw.pow_le9 h9)))
              go_wp2_with fail
              refine hC.mono ?_
              rintro e w2 ⟨rfl, rfl⟩
              go_wp2_with fail
              go_loopw [49] (fun i wr => ∃ j : Nat, j ≤ k ∧ i = .int .i64 j ∧ RI w wr w1.heap.size k (Sw.addK g t p j)) (fun i _ => (k - intOf i).toNat)
              case atStart => exact ⟨0, by omega, rfl, by rw [Sw.addK_zero]; exact HR.out⟩
              case round =>
                obtain ⟨j, hj, rfl, hR2⟩ := hrel
                by_cases hjk : j < k
                · obtain ⟨hcj, hfj⟩ := hR2.cells j hjk
                  obtain ⟨hcp, hfp⟩ := hR2.cells p hpk
                  rw [Sw.addK_at] at hcj
                  rw [Sw.addK_p] at hcp
                  have HR2 := Lib.hid hR2
                  clear hR2
                  have hgj := hsm j hjk
                  have hgp := hsm p hpk
                  have hxo : bits .xor .i64 ((g j : Nat) : Int) ((g p : Nat) : Int) = ((g j ^^^ g p : Nat) : Int) := i64_xor _ _ (by omega) (by omega)
                  by_cases hjp : j = p
                  · have HS := Lib.hid (Sw.addK_skip (g := g) (l := t) (p := p) (j := j) (fun h => h.1 hjp))
                    go_wp2_with fail
                    go_roundw
                    case rel => exact ⟨j + 1, by omega, by go_num, by rw [HS.out]; exact HR2.out⟩
                    case measure => simp [intOf]; omega
                  · rcases shr_bit (g j) t (by omega) with ⟨q1, hb1⟩ | ⟨q1, hb1⟩
                    · have HS := Lib.hid (Sw.addK_step (g := g) (l := t) (p := p) (j := j) ⟨hjp, q1⟩)
                      clear q1
                      go_wp2_with fail
                      go_region
                      refine then_on (fun w2 => RI w w2 w1.heap.size k (Sw.addK g t p (j + 1))) (by rw [HS.out]; exact (HR2.out.put j _ _ rfl).draw) ?_
                      intro w2 hR3
                      go_wp2_with fail
                      go_roundw
                      case rel => exact ⟨j + 1, by omega, by go_num, hR3⟩
                      case measure => simp [intOf]; omega
                    · have HS := Lib.hid (Sw.addK_skip (g := g) (l := t) (p := p) (j := j) (fun h => by rw [q1] at h; exact absurd h.2 (by simp)))
                      clear q1
                      go_wp2_with fail
                      go_roundw
                      case rel => exact ⟨j + 1, by omega, by go_num, by rw [HS.out]; exact HR2.out⟩
                      case measure => simp [intOf]; omega
                · have : j = k := by omega
                  subst this
                  have HE := Lib.hid (hR2.congr (fun i hi => Sw.addK_end g t p j i hi))
                  clear hR2
                  go_wp2_with fail
                  go_roundw
                  case rel =>
                    refine ⟨t + 1, by omega, by go_num, ?_, ?_⟩
                    · rw [HP.out]
                    · rw [HP.out]; exact HE.out
                  case measure => simp [intOf]; omega
          · have : t = 9 := by omega
            subst this
            have hcl := (HI.out 9).lt
            have HC := Lib.hid (Sw.rank_eq k f)
            obtain ⟨c, hc⟩ : ∃ c, c = (Sw.rstK k f 9).2 := ⟨_, rfl⟩
            rw [← hc] at hcl HC ⊢
            clear hc
            have hcl9 : c < 512 := Nat.lt_of_lt_of_le hcl (Sw.pow29 h9)
            go_wp2_with fail
            refine (countBits c (by omega) _).mono ?_
            rintro e w2 ⟨rfl, rfl⟩
            go_wp2_with fail
            go_ret
            exact ⟨ret_i (by rw [HV.out, HC.out]), hR.2.1⟩
  · have HV : Hid (Sw.vRank l = -1) := Sw.vRank_no fun h => h9 h.1
    go_enter Try.func18, Try.ntmps18
    go_wp2_with fail
    go_ret
    exact ⟨ret_i HV.out.symm, Below.refl _ _⟩
end Go.Proofs.Ytooohgjmomhjoaa

