/- FnRankOf: orders of rows do not matter. No conditions. -/
import Derived.Test.YtooohgjmomhjoaaLw
import Derived.Test.YtooohgjmomhjoaaRank2
import Derived.Test.YtooohgjmomhjoaaDpK
import Derived.Test.YtooohgjmomhjoaaMath9
import Derived.Deep.RegionHeld3
import Derived.Deep.DeepCutAuto
namespace Go.Proofs.Ytooohgjmomhjoaa
open Go.ChangeShapes Go.WideShapes Go.ChangeAt Go.RowKit
theorem OwnI.rd' {w : World} {lo hi n c : Nat} {A : Option Addr} {l : List Int} (h : OwnI w lo hi (.slice A n c) l) : RdI w w.heap.size A l := by
  obtain ⟨A', c', e, hr⟩ := h.rd
  injection e with e _ _
  subst e
  exact hr
theorem then_onH {P : Program} {md : Region.Mode} {ops : Array Oper} {Q : Exit → Act → World → Prop} {S : World → Prop} {fuel : Nat} {listed : Array Bool} {a : Act} {W : World} (R : World → Prop) (h : R W) (k : ∀ w2, R w2 → wpAnyH P md ops Q S fuel listed a w2) : wpAnyH P md ops Q S fuel listed a W := k W h
theorem step_copy {w : World} {ops : Array Oper} {o : Oper} {a : Act} {K : Act → World → Prop} {Q : Exit → Act → World → Prop} {E : Prop} (hgd : o.guard = none) (s x : Operand)
    (ho : o.op = .call { callee := .builtin .append, args := #[s, x], argTypes := #[23, 23] }) {base B : Nat} {A : Option Addr} {c : Nat} {l : List Int} {i0 : TypeInfo} (hi : Try.prog.info? 3 = some i0) (hz0 : i0.zero = some (.int .i64 0)) (hz1 : i0.size = 1) (hz2 : i0.bytes = 8)
    (hr : RdI w w.heap.size A l) (hl : l.length ≤ 1048576) (hown : w.ownsRow base 3 1 (.slice (some ⟨B, 0, none⟩) 0 0) 0 []) (hbase : base ≤ w.heap.size) (hs : a.eval s = .slice (some ⟨B, 0, none⟩) 0 0) (n : Nat) (hn : l.length = n) (hx : a.eval x = .slice A n c)
    (h : ∀ g cap w', w'.ownsRow base 3 1 (.slice (some ⟨g, 0, none⟩) n cap) n (ints l) → w.grownBy w' (some B) → K (a.put o.dst (.slice (some ⟨g, 0, none⟩) n cap)) w') : if Region.wanted o (yielded ops a.tmps) = true then Oper.wp Try.prog o a w K Q else E := by
  subst hn
  have hw : Region.wanted o (yielded ops a.tmps) = true := by simp [Region.wanted, hgd]
  rw [if_pos hw]
  obtain ⟨g, cap, w', h1, h2, h3⟩ := run_copy (c := c) o.type hi hz0 hz1 hz2 hr hl hown hbase
  unfold Oper.wp execOp
  simp only [ho, resolve, invoke, builtin, Sem.run_bind, Sem.run_pure, Result.andThen_ok, List.map_toArray, List.map_cons, List.map_nil, hs, hx, h1]
  exact h g cap w' h2 h3
/-- the rows, below b0, and what was there before -/
def Rw (w W : World) (b0 : Nat) (A : Option Addr) (L : List Int) : Prop := Below w.heap.size w W ∧ b0 ≤ W.heap.size ∧ RdI W b0 A L ∧ w.heap.size ≤ b0
theorem Rw.start {w W : World} {A : Option Addr} {L : List Int} (hr : RdI W W.heap.size A L) (hb : Below w.heap.size w W) : Rw w W W.heap.size A L := ⟨hb, Nat.le_refl _, hr, hb.size⟩
theorem RdI.rdz {W : World} {b0 : Nat} {A : Option Addr} {L : List Int} (h : RdI W b0 A L) (hb : b0 ≤ W.heap.size) : RdI W W.heap.size A L := h.more hb
theorem rank_toI {R : List Nat} (h : R.length ≤ 9) (h1 : ∀ r ∈ R, r < 2 ^ 9) : Sw.vRank (Sw.toI R) = ((Sw.rkL R : Nat) : Int) := by
  have hm : ∀ j, j < R.length → Sw.nb R j ∈ R := fun j hj => by
    unfold Sw.nb
    rw [List.getD_eq_getElem?_getD, List.getElem?_eq_getElem hj]
    exact List.getElem_mem hj
  have hok : Sw.okRows (Sw.toI R) := ⟨by rw [Sw.toI_len]; exact h, fun k hk => by
    rw [Sw.toI_len] at hk
    rw [Sw.gat_toI]
    have := h1 _ (hm k hk)
    omega⟩
  rw [Sw.vRank_yes hok, Sw.toN_toI, Sw.toI_len]; rfl
theorem rank_cases (L : List Int) : Sw.vRank L = -1 ∨ ∃ R : List Nat, L = Sw.toI R ∧ R.length ≤ 9 ∧ (∀ r ∈ R, r < 2 ^ 9) ∧ Sw.vRank (Sw.toI R) = ((Sw.rkL R : Nat) : Int) := by
  by_cases h : Sw.okRows L
  · refine .inr ?_
    have e : L = Sw.toI (Sw.toN L) := Sw.gat_ext (by rw [Sw.toI_len]; unfold Sw.toN; simp) fun k hk => by rw [Sw.gat_toI, Sw.nb_toN hk (h.2 k hk).1]
    have hl : (Sw.toN L).length = L.length := by unfold Sw.toN; simp
    have h1 : ∀ r ∈ Sw.toN L, r < 2 ^ 9 := fun r hr => by
      obtain ⟨j, hj, rfl⟩ := List.getElem_of_mem hr
      have := Sw.nb_toN_lt h j (by omega)
      unfold Sw.nb at this
      rw [List.getD_eq_getElem?_getD, List.getElem?_eq_getElem hj] at this
      exact this
    exact ⟨Sw.toN L, e, by rw [hl]; exact h.1, h1, rank_toI (by rw [hl]; exact h.1) h1⟩
  · exact .inl (Sw.vRank_no h)
theorem toI_reverse (R : List Nat) : (Sw.toI R).reverse = Sw.toI R.reverse := by unfold Sw.toI; rw [List.map_reverse]
/-- the sum of two rows in place of one of both; a row twice -/
theorem rank_sum {R : List Nat} (h : R.length ≤ 9) (h1 : ∀ r ∈ R, r < 2 ^ 9) (h2 : 2 ≤ (Sw.toI R).length) : ∃ x0 x1 : Nat, Sw.gat (Sw.toI R) 0 = (x0 : Int) ∧ Sw.gat (Sw.toI R) 1 = (x1 : Int) ∧ x0 < 1099511627776 ∧ x1 < 1099511627776 ∧
    Sw.vRank ((Sw.toI R).set 0 ((x0 ^^^ x1 : Nat) : Int)) = ((Sw.rkL R : Nat) : Int) ∧ (((Sw.toI R).length : Int) = 9 ∨ Sw.vRank (Sw.toI R ++ [(x0 : Int)]) = ((Sw.rkL R : Nat) : Int)) := by
  rw [Sw.toI_len] at h2 ⊢
  match R, h, h1, h2 with
  | x :: y :: K, h, h1, _ =>
    have hx := h1 x (by simp)
    have hy := h1 y (by simp)
    refine ⟨x, y, rfl, rfl, by omega, by omega, ?_, ?_⟩
    · have e : (Sw.toI (x :: y :: K)).set 0 ((x ^^^ y : Nat) : Int) = Sw.toI ((x ^^^ y) :: y :: K) := rfl
      rw [e, rank_toI (by simpa using h) (fun r hr => by
        rcases List.mem_cons.1 hr with q | q
        · rw [q]; exact Nat.xor_lt_two_pow hx hy
        · exact h1 r (List.mem_cons_of_mem _ q)), Sw.rkL_sum (by simpa using h) h1]
    · by_cases h9 : (x :: y :: K).length = 9
      · exact .inl (by omega)
      · refine .inr ?_
        have e : Sw.toI (x :: y :: K) ++ [(x : Int)] = Sw.toI ((x :: y :: K) ++ [x]) := by unfold Sw.toI; simp
        rw [e, rank_toI (by rw [List.length_append]; simp at h h9 ⊢; omega) (fun r hr => by
          rcases List.mem_append.1 hr with q | q
          · exact h1 r q
          · rw [List.mem_singleton] at q; rw [q]; exact hx), Sw.rkL_twice (by omega) h1 (by simp)]
theorem Rw.next {w W W' : World} {b0 B : Nat} {A : Option Addr} {L : List Int} (h : Rw w W b0 A L) (hb : Below B W W') (hB : b0 ≤ B) : Rw w W' b0 A L :=
  ⟨h.1.trans (hb.mono (Nat.le_trans h.2.2.2 hB)), Nat.le_trans h.2.1 hb.size, h.2.2.1.below (hb.mono hB), h.2.2.2⟩
set_option maxRecDepth 100000 in
set_option maxHeartbeats 4000000 in
theorem lawRankOf (A : Option Addr) (n c : Nat) (hm : n ≤ maxLen) (hc : n ≤ c) (w : World) (hB : RdB w w.heap.size A n) :
    Calls Try.prog 5 #[.slice A n c] w fun e w' => e = .returned (.bool true) ∧ Below w.heap.size w w' := by
  unfold maxLen at hm
  by_cases hlen : (n : Int) ≤ 1048576
  · obtain ⟨i0, hi, hz0, hz1i, hz2⟩ := info_parts info_int
    go_enter Try.func5, Try.ntmps5
    go_wp2_with fail
    refine (drawRankOf A n c (by omega) hc _ hB).mono ?_
    rintro e w1 ⟨A1, c1, L, rfl, h11, hr, hb⟩
    have HR := Lib.hid (Rw.start hr hb)
    clear hr hb
    rcases rank_cases L with hV | ⟨R, rfl, hR9, hRb, hV⟩
    · have hI := fun W h => implRankOf L A1 c1 (by omega) W h
      have hS := fun W h => specRankOf L A1 c1 (by omega) W h
      rw [hV] at hI hS
      clear hV
      obtain ⟨_, hzb, hrb, _⟩ := HR.out
      go_wp2_with fail
      refine (hI _ (hrb.rdz hzb)).mono ?_
      rintro e w21 ⟨rfl, hb21⟩
      have HR := Lib.hid (HR.out.next hb21 hzb)
      clear hzb hrb hb21
      obtain ⟨_, hzb, hrb, _⟩ := HR.out
      go_wp2_with fail
      refine (hS _ (hrb.rdz hzb)).mono ?_
      rintro e w22 ⟨rfl, hb22⟩
      have HR := Lib.hid (HR.out.next hb22 hzb)
      clear hzb hrb hb22
      obtain ⟨_, hzb, hrb, _⟩ := HR.out
      go_wp2_with fail
      refine (alive _).mono ?_
      rintro e w23 ⟨rfl, hb23⟩
      have HR := Lib.hid (HR.out.next hb23 hzb)
      clear hzb hrb hb23
      go_wp2_with fail
      go_ret
      exact ⟨rfl, HR.out.1⟩
    · have hRn := Sw.toI_len R
      have hI := fun W h => implRankOf (Sw.toI R) A1 c1 (by omega) W h
      have hS := fun W h => specRankOf (Sw.toI R) A1 c1 (by omega) W h
      rw [hV] at hI hS
      have hBk := fun A c W h => implRankOf (Sw.toI R).reverse A c (by rw [List.length_reverse]; omega) W h
      rw [toI_reverse, rank_toI (R := R.reverse) (by rw [List.length_reverse]; exact hR9) (fun r hr => hRb r (List.mem_reverse.1 hr)), Sw.rkL_back hR9 hRb, ← toI_reverse, List.length_reverse] at hBk
      have hNl := Sw.rkL_le hR9 hRb
      have HSm := Lib.hid (rank_sum hR9 hRb)
      obtain ⟨N, hN⟩ : ∃ N, N = Sw.rkL R := ⟨_, rfl⟩
      rw [← hN] at hI hS hBk hNl HSm
      obtain ⟨L, hL⟩ : ∃ L, L = Sw.toI R := ⟨_, rfl⟩
      rw [← hL] at hRn hI hS hBk HSm HR h11 ⊢
      have hL9 : L.length ≤ 9 := by omega
      have hNL : N ≤ L.length := by omega
      have hd14 : decide ((L.length : Int) < (N : Int)) = false := by rw [decide_eq_false_iff_not]; omega
      have HBK := Lib.hid hBk
      clear hV hN hL hBk hNl hRn hR9 hRb
      obtain ⟨_, hzb, hrb, _⟩ := HR.out
      go_wp2_with fail
      refine (hI _ (hrb.rdz hzb)).mono ?_
      rintro e w24 ⟨rfl, hb24⟩
      have HR := Lib.hid (HR.out.next hb24 hzb)
      clear hzb hrb hb24
      obtain ⟨_, hzb, hrb, _⟩ := HR.out
      go_wp2_with fail
      refine (hS _ (hrb.rdz hzb)).mono ?_
      rintro e w25 ⟨rfl, hb25⟩
      have HR := Lib.hid (HR.out.next hb25 hzb)
      clear hzb hrb hb25
      clear hI hS
      have HR2 := Lib.hid (HR.out.next (below1 (.cells #[] 3)) HR.out.2.1)
      obtain ⟨_, hzb, hrb, _⟩ := HR.out
      have HO0 := Lib.hid ((lit0 w25).lo_ hzb)
      have hw1 : IntKind.i64.wrap ((L.length : Int) - 1) = (L.length : Int) - 1 := IntWalk.i64_in _ (by omega)
      go_wp2_with fail
      go_loopw [5, 6] (fun q i wr => ∃ (k : Nat) (x : Int) (A2 : Option Addr) (n2 c2 : Nat), k ≤ L.length ∧ i = .int .i64 x ∧ x = (k : Int) - 1 ∧ n2 + k = L.length ∧ q = .slice A2 n2 c2 ∧ OwnI wr w1.heap.size wr.heap.size (.slice A2 n2 c2) (L.drop k).reverse ∧ Rw w wr w1.heap.size A1 L) (fun _ i _ => (intOf i + 1).toNat)
      case atStart => exact ⟨L.length, _, _, 0, 0, Nat.le_refl _, rfl, rfl, by omega, rfl, by rw [List.drop_length]; exact HO0.out, HR2.out⟩
      case round =>
        obtain ⟨k, x, A2, n2, c2, hk, rfl, hx, hnk, rfl, hO, hR⟩ := hrel
        have HR := Lib.hid hR
        have HK := Lib.hid hnk
        clear hR HR2 hzb hrb HO0 hw1
        rcases k with _ | k
        · have hdg : decide ((0 : Int) ≤ x) = false := decide_eq_false (by omega)
          clear hx
          have hn2 : n2 = L.length := by have := HK.out; omega
          subst hn2
          rw [List.drop_zero] at hO
          obtain ⟨A', c', e, hrB⟩ := hO.rd
          injection e with e e2 e3
          subst e
          clear e2 e3
          obtain ⟨_, hzb, hrb, _⟩ := HR.out
          have hbk := HBK.out A2 c2
          clear hO HK hnk hk
          go_wp2_with fail
          refine (hbk _ hrB).mono ?_
          rintro e w26 ⟨rfl, hb26⟩
          have HR := Lib.hid (HR.out.next hb26 hzb)
          clear hzb hrb hb26 hbk hrB HBK
          by_cases hl2 : (L.length : Int) < 2
          · have hd16 : decide ((L.length : Int) < 2) = true := decide_eq_true hl2
            go_wp2_with fail
            go_ret
            exact ⟨rfl, HR.out.1⟩
          · have hd16 : decide ((L.length : Int) < 2) = false := decide_eq_false hl2
            obtain ⟨x0, x1, hg0, hg1, hx0, hx1, hsum, htw⟩ := HSm.out (by omega)
            obtain ⟨_, hzb, hrb, _⟩ := HR.out
            have hl48 : L.length ≤ 1048576 := by omega
            go_wp2_with (at_builtin; go_loud (refine wpList_copy rfl _ _ rfl hi hz0 hz1i hz2 ((hrb.rdz hzb).at_ (below1 _)) hl48 (World.ownsRow_lit (base := w26.heap.size) w26 #[] 0 (Nat.le_refl _) (by unfold maxLen; omega) rfl) (by simp) rfl L.length rfl rfl ?_); intro g cap w27 hown27 hgrow27)
            have hO27 : OwnI w27 w26.heap.size w27.heap.size (.slice (some ⟨g, 0, none⟩) L.length cap) L := OwnI.own hown27
            have hg27 : w26.grownBy w27 (some w26.heap.size) := (World.grownBy_alloc w26 _ _).trans hgrow27
            have hb27 := below_of_grown (B := w26.heap.size) hg27 (Nat.le_refl _) (fun q e => by injection e with e; omega)
            have HR := Lib.hid (HR.out.next hb27 hzb)
            obtain ⟨ad, rfl, _, hc0⟩ := HR.out.2.2.1 0 (by omega)
            obtain ⟨ad', e', _, hc1⟩ := HR.out.2.2.1 1 (by omega)
            injection e' with e'
            subst e'
            rw [hg0] at hc0
            rw [hg1] at hc1
            obtain ⟨g', c', e', hg26, hgl, hgc⟩ := hO27.form (by omega)
            injection e' with e' e1 e2
            injection e' with e'
            injection e' with e' e3 e4
            subst e' e2
            try clear e1
            try clear e3
            try clear e4
            obtain ⟨hgc0, hgf0⟩ := hgc 0 (by omega)
            have hset := hO27.set 0 ((x0 ^^^ x1 : Nat) : Int)
            have hbs := below_of_grown (B := w26.heap.size) hset.2 hb27.size (fun q e => by injection e with e; omega)
            have HRs := Lib.hid (HR.out.next hbs hzb)
            have HOs := Lib.hid hset.1
            have hs0 := (hbs.cell (p := ad.add 0) (by rw [add_block]; have := (HR.out.2.2.1 0 (by omega)); obtain ⟨ad2, e2, q, _⟩ := this; injection e2 with e2; subst e2; omega)).trans hc0
            have hs1 := (hbs.cell (p := ad.add 1) (by rw [add_block]; have := (HR.out.2.2.1 0 (by omega)); obtain ⟨ad2, e2, q, _⟩ := this; injection e2 with e2; subst e2; omega)).trans hc1
            have hot := fun W => other x0 x1 hx0 hx1 W
            rw [show ad.add 0 = ad from rfl] at hc0 hs0
            rw [show ad.add 1 = ⟨ad.block, ad.off + 1, none⟩ from rfl] at hc1 hs1
            clear hown27 hgrow27 hg27 hb27 hgc hzb hrb hset hbs hgl
            have hl0 : (0 : Int) < (L.length : Int) := by omega
            have hl0n : 0 < L.length := by omega
            have hl1 : (1 : Int) < (L.length : Int) := by omega
            go_wp2_with fail
            go_region_held3 (fun w' => w'.cell? ad = some (.int .i64 (x0 : Nat)) ∧ w'.cell? ⟨ad.block, ad.off + 1, none⟩ = some (.int .i64 (x1 : Nat))) (first | exact ⟨hc0, hc1⟩ | exact ⟨hs0, hs1⟩) (first | (go_at_call 10; refine (hot _).mono ?_; rintro e w' ⟨rfl, rfl⟩))
            refine then_on (fun W => Rw w W w1.heap.size (some ad) L ∧ RdI W W.heap.size (some ⟨g, 0, none⟩) (L.set 0 ((x0 ^^^ x1 : Nat) : Int))) ⟨⟨bdr HRs.out.1 1, HRs.out.2⟩, OwnI.rd' HOs.out⟩ ?_
            rintro W2 ⟨hRs, hMr⟩
            have hMl : (L.set 0 ((x0 ^^^ x1 : Nat) : Int)).length = L.length := by rw [List.length_set]
            obtain ⟨M, hM⟩ : ∃ M, M = L.set 0 ((x0 ^^^ x1 : Nat) : Int) := ⟨_, rfl⟩
            rw [← hM] at hMr hMl hsum
            have hSu := fun A c W h => implRankOf M A c (by omega) W h
            rw [hsum, hMl] at hSu
            have hTw := fun A c W h => implRankOf (L ++ [(x0 : Int)]) A c (by rw [List.length_append]; simp; omega) W h
            rw [List.length_append] at hTw
            obtain ⟨TW, hTW⟩ : ∃ TW, TW = Sw.vRank (L ++ [(x0 : Int)]) := ⟨_, rfl⟩
            rw [← hTW] at hTw htw
            have HTW2 := Lib.hid htw
            have HSu := Lib.hid hSu
            have HTw := Lib.hid hTw
            have HRs := Lib.hid hRs
            have HM := Lib.hid hMr
            have HGL := Lib.hid hg0
            have hrL := hRs.2.2.1
            have hb0 : w1.heap.size ≤ W2.heap.size := hRs.2.1
            have hblk : ad.block < W2.heap.size := by
              obtain ⟨ad2, e2, q, _⟩ := hrL 0 (by omega)
              injection e2 with e2
              subst e2; omega
            have hcW : W2.cell? ad = some (.int .i64 (x0 : Nat)) := by
              obtain ⟨ad2, e2, _, q⟩ := hrL 0 (by omega)
              injection e2 with e2
              subst e2
              rw [HGL.out] at q; exact q
            have HS : Hid (∀ W, Below W2.heap.size W2 W → W.cell? ad = some (.int .i64 (x0 : Nat))) := fun W h => (h.cell hblk).trans hcW
            have hrz := hrL.rdz hb0
            have HRZ : Hid (∀ W, Below W2.heap.size W2 W → RdI W W.heap.size (some ad) L) := fun W h => hrz.at_ h
            clear hM hMr hMl hsum hTW hTw hSu htw hrL hrz hRs hc0 hc1 hs0 hs1 hgc0 hgf0 hot hg0 hg1
            go_wp2_with fail
            refine wp_region_held_drew (S := fun w' => w'.cell? ad = some (.int .i64 (x0 : Nat))) (by kernel_rfl) hcW (fun hHeld => ?_)
            refine wpAnyH_take (i := 1) (v := (.slice (some ad) L.length c1)) rfl (by kernel_rfl) (by kernel_rfl) (by kernel_rfl) (fun _ _ _ h => h) (Or.inl ⟨by kernel_rfl, fun w hSw => by ((try dsimp only at hSw); go_simp)⟩) (by assumption) ?_
            refine wpAnyH_take (i := 3) (v := (.slice (some ad) L.length c1)) rfl (by kernel_rfl) (by kernel_rfl) (by kernel_rfl) (fun _ _ _ h => h) (Or.inl ⟨by kernel_rfl, fun w hSw => by ((try dsimp only at hSw); go_simp)⟩) (by assumption) ?_
            refine wpAnyH_take (i := 4) (v := (.pointer (some ad))) rfl (by kernel_rfl) (by kernel_rfl) (by kernel_rfl) (fun _ _ _ h => h) (Or.inl ⟨by kernel_rfl, fun w hSw => by ((try dsimp only at hSw); go_simp)⟩) (by assumption) ?_
            refine wpAnyH_take (i := 5) (v := (.int .i64 (x0 : Nat))) rfl (by kernel_rfl) (by kernel_rfl) (by kernel_rfl) (fun _ _ _ h => h) (Or.inl ⟨by kernel_rfl, fun w hSw => by ((try dsimp only at hSw); go_simp)⟩) (by assumption) ?_
            have hbz := Below.refl W2.heap.size W2
            refine wpAnyH_ready (rs := [0, 6]) (by kernel_rfl) (by simp) ?_
            refine AllReadyH.cons rfl (fun K0 hK0 => ?_) (AllReadyH.cons rfl (fun K0 hK0 => ?_) AllReadyH.nil)
            · go_simp
              refine hK0.out _ _ (HS.out _ (bdr (below1 _) 1)) (fun hHeld2 => ?_)
              clear hK0 K0
              try simp only [Act.put, List.setIfInBounds_toArray, List.set_cons_zero, List.set_cons_succ]
              refine then_onH (fun W => Below W2.heap.size W2 W ∧ W.ownsRow W2.heap.size 3 1 (.slice (some ⟨W2.heap.size, 0, none⟩) 0 0) 0 [] ∧ W2.heap.size < W.heap.size) ⟨bdr (below1 _) 1, World.ownsRow_lit (base := W2.heap.size) W2 #[] 0 (Nat.le_refl _) (by unfold maxLen; omega) rfl, by simp⟩ ?_
              rintro Wa ⟨hba, howa, hza⟩
              replace hHeld2 : Wa.cell? ad = some (.int .i64 (x0 : Nat)) := HS.out _ hba
              refine wpAnyH_ready (rs := [2, 6]) (by kernel_rfl) (by simp) ?_
              refine AllReadyH.cons rfl (fun K0 hK0 => ?_) (AllReadyH.cons rfl (fun K0 hK0 => ?_) AllReadyH.nil)
              · refine step_copy rfl _ _ rfl hi hz0 hz1i hz2 (HRZ.out _ hba) (by omega) howa hba.size rfl L.length rfl rfl ?_
                intro g2 cap2 Wc hown2 hgr2
                have hb2 := hba.trans (below_of_grown (B := W2.heap.size) hgr2 hba.size (fun q e => by injection e with e; omega))
                refine hK0.out _ _ (HS.out _ hb2) (fun hHeld2 => ?_)
                clear hK0 K0
                try simp only [Act.put, List.setIfInBounds_toArray, List.set_cons_zero, List.set_cons_succ]
                refine wpAnyH_ready (rs := [6]) (by kernel_rfl) (by simp) ?_
                refine AllReadyH.cons rfl (fun K0 hK0 => ?_) AllReadyH.nil
                go_simp
                refine hK0.out _ _ (HS.out _ (hb2.alloc hb2.size _)) (fun hHeld2 => ?_)
                clear hK0 K0
                try simp only [Act.put, List.setIfInBounds_toArray, List.set_cons_zero, List.set_cons_succ]
                refine then_onH (fun W => Below W2.heap.size W2 W ∧ W.ownsRow W2.heap.size 3 1 (.slice (some ⟨g2, 0, none⟩) L.length cap2) L.length (ints L) ∧ W.heap[Wc.heap.size]? = some (.cells #[.int .i64 (x0 : Int)] 3 (0, 0))) ⟨hb2.alloc hb2.size _, hown2.alloc _, heap_alloc_new Wc _⟩ ?_
                rintro Wz ⟨hbz, howz, hqz⟩
                replace hHeld2 : Wz.cell? ad = some (.int .i64 (x0 : Nat)) := HS.out _ hbz
                refine wpAnyH_ready (rs := [7]) (by kernel_rfl) (by simp) ?_
                refine AllReadyH.cons rfl (fun K0 hK0 => ?_) AllReadyH.nil
                refine step_append_lies _ rfl _ _ 23 rfl W2.heap.size 3 i0 (.int .i64 0) 1 8 Try.underlying23 hi hz0 hz1i hz2 rfl (by decide) (.slice (some ⟨g2, 0, none⟩) L.length cap2) L.length (ints L) rfl howz ⟨Wc.heap.size, 0, none⟩ 1 1 [.int .i64 (x0 : Int)] rfl rfl (World.news_of_block hqz) (by intro u hu; simp at hu; subst hu; rfl) (by decide) (by unfold maxLen; omega) (by omega) hbz.size _ rfl ?_
                intro g3 cap3 Wv hown7 hgr7 hat7 hlt7
                have hb7 := hbz.trans (below_of_grown (B := W2.heap.size) hgr7 hbz.size (fun q e => (howz.lt q e).1))
                have hO7 : OwnI Wv W2.heap.size Wv.heap.size (.slice (some ⟨g3, 0, none⟩) (L.length + 1) cap3) (L ++ [(x0 : Int)]) := OwnI.own (by rw [ints_snoc, List.length_append]; exact hown7)
                have hr7 := OwnI.rd' hO7
                refine hK0.out _ _ (HS.out _ hb7) (fun hHeld2 => ?_)
                clear hK0 K0
                try simp only [Act.put, List.setIfInBounds_toArray, List.set_cons_zero, List.set_cons_succ]
                refine wpAnyH_ready (rs := [8]) (by kernel_rfl) (by simp) ?_
                refine AllReadyH.cons rfl (fun K0 hK0 => ?_) AllReadyH.nil
                go_simp
                refine (HTw.out _ _ _ (by exact hr7)).mono ?_
                rintro e W8 ⟨rfl, hb8⟩
                have hb8 := hb7.trans (hb8.mono hb7.size)
                try go_wp2_with fail
                refine hK0.out _ _ (HS.out _ hb8) (fun hHeld2 => ?_)
                clear hK0 K0
                try simp only [Act.put, List.setIfInBounds_toArray, List.set_cons_zero, List.set_cons_succ]
                refine wpAnyH_ready (rs := [9]) (by kernel_rfl) (by simp) ?_
                refine AllReadyH.cons rfl (fun K0 hK0 => ?_) AllReadyH.nil
                go_simp
                refine hK0.out _ _ (HS.out _ hb8) (fun hHeld2 => ?_)
                clear hK0 K0
                try simp only [Act.put, List.setIfInBounds_toArray, List.set_cons_zero, List.set_cons_succ]
                refine wpAnyH_done (by kernel_rfl) ?_ _
                have HR := Lib.hid (HRs.out.next hb8 hb0)
                have hrM := RdI.at_ HM.out hb8
                obtain ⟨_, hzb, hrb, _⟩ := HR.out
                have hsu := HSu.out (some ⟨g, 0, none⟩) cap
                clear hr7 hO7 hb7 hgr7 hown7 hat7 hHeld hHeld2
                have h9c := HTW2.out
                rcases h9c with h9 | rfl
                · have hb9 : ((L.length : Int) == 9) = true := by rw [beq_iff_eq]; exact h9
                  clear h9
                  go_wp2_with fail
                  refine (hsu _ hrM).mono ?_
                  rintro e W9 ⟨rfl, hb9'⟩
                  have HR := Lib.hid (HR.out.next hb9' hzb)
                  go_wp2_with fail
                  go_ret
                  exact ⟨rfl, HR.out.1⟩
                · cases hb9 : ((L.length : Int) == 9)
                  all_goals
                    go_wp2_with fail
                    refine (hsu _ hrM).mono ?_
                    rintro e W9 ⟨rfl, hb9'⟩
                    have HR := Lib.hid (HR.out.next hb9' hzb)
                    go_wp2_with fail
                    go_ret
                    exact ⟨rfl, HR.out.1⟩
              · go_simp
                refine hK0.out _ _ (HS.out _ (hba.alloc hba.size _)) (fun hHeld2 => ?_)
                clear hK0 K0
                try simp only [Act.put, List.setIfInBounds_toArray, List.set_cons_zero, List.set_cons_succ]
                refine then_onH (fun W => Below W2.heap.size W2 W ∧ W.ownsRow W2.heap.size 3 1 (.slice (some ⟨W2.heap.size, 0, none⟩) 0 0) 0 [] ∧ W.heap[Wa.heap.size]? = some (.cells #[.int .i64 (x0 : Int)] 3 (0, 0)) ∧ Wa.heap.size < W.heap.size) ⟨hba.alloc hba.size _, howa.alloc _, heap_alloc_new Wa _, by simp⟩ ?_
                rintro Wb ⟨hbb, howb, hqb, hzb2⟩
                replace hHeld2 : Wb.cell? ad = some (.int .i64 (x0 : Nat)) := HS.out _ hbb
                refine wpAnyH_ready (rs := [2]) (by kernel_rfl) (by simp) ?_
                refine AllReadyH.cons rfl (fun K0 hK0 => ?_) AllReadyH.nil
                refine step_copy rfl _ _ rfl hi hz0 hz1i hz2 (HRZ.out _ hbb) (by omega) howb hbb.size rfl L.length rfl rfl ?_
                intro g2 cap2 Wc hown2 hgr2
                have hb2 := hbb.trans (below_of_grown (B := W2.heap.size) hgr2 hbb.size (fun q e => by injection e with e; omega))
                have hqz := (hgr2.block _ hzb2 (by intro e; injection e with e; omega)).trans hqb
                refine hK0.out _ _ (HS.out _ hb2) (fun hHeld2 => ?_)
                clear hK0 K0
                try simp only [Act.put, List.setIfInBounds_toArray, List.set_cons_zero, List.set_cons_succ]
                refine wpAnyH_ready (rs := [7]) (by kernel_rfl) (by simp) ?_
                refine AllReadyH.cons rfl (fun K0 hK0 => ?_) AllReadyH.nil
                refine step_append_lies _ rfl _ _ 23 rfl W2.heap.size 3 i0 (.int .i64 0) 1 8 Try.underlying23 hi hz0 hz1i hz2 rfl (by decide) (.slice (some ⟨g2, 0, none⟩) L.length cap2) L.length (ints L) rfl hown2 ⟨Wa.heap.size, 0, none⟩ 1 1 [.int .i64 (x0 : Int)] rfl rfl (World.news_of_block hqz) (by intro u hu; simp at hu; subst hu; rfl) (by decide) (by unfold maxLen; omega) (by omega) hb2.size _ rfl ?_
                intro g3 cap3 Wv hown7 hgr7 hat7 hlt7
                have hb7 := hb2.trans (below_of_grown (B := W2.heap.size) hgr7 hb2.size (fun q e => (hown2.lt q e).1))
                have hO7 : OwnI Wv W2.heap.size Wv.heap.size (.slice (some ⟨g3, 0, none⟩) (L.length + 1) cap3) (L ++ [(x0 : Int)]) := OwnI.own (by rw [ints_snoc, List.length_append]; exact hown7)
                have hr7 := OwnI.rd' hO7
                refine hK0.out _ _ (HS.out _ hb7) (fun hHeld2 => ?_)
                clear hK0 K0
                try simp only [Act.put, List.setIfInBounds_toArray, List.set_cons_zero, List.set_cons_succ]
                refine wpAnyH_ready (rs := [8]) (by kernel_rfl) (by simp) ?_
                refine AllReadyH.cons rfl (fun K0 hK0 => ?_) AllReadyH.nil
                go_simp
                refine (HTw.out _ _ _ (by exact hr7)).mono ?_
                rintro e W8 ⟨rfl, hb8⟩
                have hb8 := hb7.trans (hb8.mono hb7.size)
                try go_wp2_with fail
                refine hK0.out _ _ (HS.out _ hb8) (fun hHeld2 => ?_)
                clear hK0 K0
                try simp only [Act.put, List.setIfInBounds_toArray, List.set_cons_zero, List.set_cons_succ]
                refine wpAnyH_ready (rs := [9]) (by kernel_rfl) (by simp) ?_
                refine AllReadyH.cons rfl (fun K0 hK0 => ?_) AllReadyH.nil
                go_simp
                refine hK0.out _ _ (HS.out _ hb8) (fun hHeld2 => ?_)
                clear hK0 K0
                try simp only [Act.put, List.setIfInBounds_toArray, List.set_cons_zero, List.set_cons_succ]
                refine wpAnyH_done (by kernel_rfl) ?_ _
                have HR := Lib.hid (HRs.out.next hb8 hb0)
                have hrM := RdI.at_ HM.out hb8
                obtain ⟨_, hzb, hrb, _⟩ := HR.out
                have hsu := HSu.out (some ⟨g, 0, none⟩) cap
                clear hr7 hO7 hb7 hgr7 hown7 hat7 hHeld hHeld2
                have h9c := HTW2.out
                rcases h9c with h9 | rfl
                · have hb9 : ((L.length : Int) == 9) = true := by rw [beq_iff_eq]; exact h9
                  clear h9
                  go_wp2_with fail
                  refine (hsu _ hrM).mono ?_
                  rintro e W9 ⟨rfl, hb9'⟩
                  have HR := Lib.hid (HR.out.next hb9' hzb)
                  go_wp2_with fail
                  go_ret
                  exact ⟨rfl, HR.out.1⟩
                · cases hb9 : ((L.length : Int) == 9)
                  all_goals
                    go_wp2_with fail
                    refine (hsu _ hrM).mono ?_
                    rintro e W9 ⟨rfl, hb9'⟩
                    have HR := Lib.hid (HR.out.next hb9' hzb)
                    go_wp2_with fail
                    go_ret
                    exact ⟨rfl, HR.out.1⟩
            · go_simp
              refine hK0.out _ _ (HS.out _ (bdr (below1 _) 1)) (fun hHeld2 => ?_)
              clear hK0 K0
              try simp only [Act.put, List.setIfInBounds_toArray, List.set_cons_zero, List.set_cons_succ]
              refine then_onH (fun W => Below W2.heap.size W2 W ∧ W.heap[W2.heap.size]? = some (.cells #[.int .i64 (x0 : Int)] 3 (0, 0)) ∧ W2.heap.size < W.heap.size) ⟨bdr (below1 _) 1, heap_alloc_new W2 _, by simp⟩ ?_
              rintro Wa ⟨hba, hqa, hza⟩
              replace hHeld2 : Wa.cell? ad = some (.int .i64 (x0 : Nat)) := HS.out _ hba
              refine wpAnyH_ready (rs := [0]) (by kernel_rfl) (by simp) ?_
              refine AllReadyH.cons rfl (fun K0 hK0 => ?_) AllReadyH.nil
              go_simp
              refine hK0.out _ _ (HS.out _ (hba.alloc hba.size _)) (fun hHeld2 => ?_)
              clear hK0 K0
              try simp only [Act.put, List.setIfInBounds_toArray, List.set_cons_zero, List.set_cons_succ]
              refine then_onH (fun W => Below W2.heap.size W2 W ∧ W.ownsRow W2.heap.size 3 1 (.slice (some ⟨Wa.heap.size, 0, none⟩) 0 0) 0 [] ∧ W.heap[W2.heap.size]? = some (.cells #[.int .i64 (x0 : Int)] 3 (0, 0)) ∧ Wa.heap.size < W.heap.size) ⟨hba.alloc hba.size _, World.ownsRow_lit (base := W2.heap.size) Wa #[] 0 hba.size (by unfold maxLen; omega) rfl, (Below.heap_alloc Wa _ _ hza).trans hqa, by simp⟩ ?_
              rintro Wb ⟨hbb, howb, hqb, hzb2⟩
              replace hHeld2 : Wb.cell? ad = some (.int .i64 (x0 : Nat)) := HS.out _ hbb
              refine wpAnyH_ready (rs := [2]) (by kernel_rfl) (by simp) ?_
              refine AllReadyH.cons rfl (fun K0 hK0 => ?_) AllReadyH.nil
              refine step_copy rfl _ _ rfl hi hz0 hz1i hz2 (HRZ.out _ hbb) (by omega) howb hbb.size rfl L.length rfl rfl ?_
              intro g2 cap2 Wc hown2 hgr2
              have hb2 := hbb.trans (below_of_grown (B := W2.heap.size) hgr2 hbb.size (fun q e => by injection e with e; omega))
              have hqz := (hgr2.block _ (Nat.lt_trans hza hzb2) (by intro e; injection e with e; omega)).trans hqb
              refine hK0.out _ _ (HS.out _ hb2) (fun hHeld2 => ?_)
              clear hK0 K0
              try simp only [Act.put, List.setIfInBounds_toArray, List.set_cons_zero, List.set_cons_succ]
              refine wpAnyH_ready (rs := [7]) (by kernel_rfl) (by simp) ?_
              refine AllReadyH.cons rfl (fun K0 hK0 => ?_) AllReadyH.nil
              refine step_append_lies _ rfl _ _ 23 rfl W2.heap.size 3 i0 (.int .i64 0) 1 8 Try.underlying23 hi hz0 hz1i hz2 rfl (by decide) (.slice (some ⟨g2, 0, none⟩) L.length cap2) L.length (ints L) rfl hown2 ⟨W2.heap.size, 0, none⟩ 1 1 [.int .i64 (x0 : Int)] rfl rfl (World.news_of_block hqz) (by intro u hu; simp at hu; subst hu; rfl) (by decide) (by unfold maxLen; omega) (by omega) hb2.size _ rfl ?_
              intro g3 cap3 Wv hown7 hgr7 hat7 hlt7
              have hb7 := hb2.trans (below_of_grown (B := W2.heap.size) hgr7 hb2.size (fun q e => (hown2.lt q e).1))
              have hO7 : OwnI Wv W2.heap.size Wv.heap.size (.slice (some ⟨g3, 0, none⟩) (L.length + 1) cap3) (L ++ [(x0 : Int)]) := OwnI.own (by rw [ints_snoc, List.length_append]; exact hown7)
              have hr7 := OwnI.rd' hO7
              refine hK0.out _ _ (HS.out _ hb7) (fun hHeld2 => ?_)
              clear hK0 K0
              try simp only [Act.put, List.setIfInBounds_toArray, List.set_cons_zero, List.set_cons_succ]
              refine wpAnyH_ready (rs := [8]) (by kernel_rfl) (by simp) ?_
              refine AllReadyH.cons rfl (fun K0 hK0 => ?_) AllReadyH.nil
              go_simp
              refine (HTw.out _ _ _ (by exact hr7)).mono ?_
              rintro e W8 ⟨rfl, hb8⟩
              have hb8 := hb7.trans (hb8.mono hb7.size)
              try go_wp2_with fail
              refine hK0.out _ _ (HS.out _ hb8) (fun hHeld2 => ?_)
              clear hK0 K0
              try simp only [Act.put, List.setIfInBounds_toArray, List.set_cons_zero, List.set_cons_succ]
              refine wpAnyH_ready (rs := [9]) (by kernel_rfl) (by simp) ?_
              refine AllReadyH.cons rfl (fun K0 hK0 => ?_) AllReadyH.nil
              go_simp
              refine hK0.out _ _ (HS.out _ hb8) (fun hHeld2 => ?_)
              clear hK0 K0
              try simp only [Act.put, List.setIfInBounds_toArray, List.set_cons_zero, List.set_cons_succ]
              refine wpAnyH_done (by kernel_rfl) ?_ _
              have HR := Lib.hid (HRs.out.next hb8 hb0)
              have hrM := RdI.at_ HM.out hb8
              obtain ⟨_, hzb, hrb, _⟩ := HR.out
              have hsu := HSu.out (some ⟨g, 0, none⟩) cap
              clear hr7 hO7 hb7 hgr7 hown7 hat7 hHeld hHeld2
              have h9c := HTW2.out
              rcases h9c with h9 | rfl
              · have hb9 : ((L.length : Int) == 9) = true := by rw [beq_iff_eq]; exact h9
                clear h9
                go_wp2_with fail
                refine (hsu _ hrM).mono ?_
                rintro e W9 ⟨rfl, hb9'⟩
                have HR := Lib.hid (HR.out.next hb9' hzb)
                go_wp2_with fail
                go_ret
                exact ⟨rfl, HR.out.1⟩
              · cases hb9 : ((L.length : Int) == 9)
                all_goals
                  go_wp2_with fail
                  refine (hsu _ hrM).mono ?_
                  rintro e W9 ⟨rfl, hb9'⟩
                  have HR := Lib.hid (HR.out.next hb9' hzb)
                  go_wp2_with fail
                  go_ret
                  exact ⟨rfl, HR.out.1⟩
        · have hx : x = (k : Int) := by omega
          subst hx
          have hdg : decide ((0 : Int) ≤ (k : Int)) = true := decide_eq_true (by omega)
          have hkl : k < L.length := by omega
          have hk0 : (0 : Int) ≤ (k : Int) := by omega
          have hk1 : (k : Int) < (L.length : Int) := by omega
          have HA : Hid ((L.drop k).reverse = (L.drop (k + 1)).reverse ++ [Sw.gat L k]) := by
            show _ = _
            rw [List.drop_eq_getElem_cons hkl, List.reverse_cons]
            unfold Sw.gat
            rw [List.getD_eq_getElem?_getD, List.getElem?_eq_getElem hkl]; rfl
          obtain ⟨ad, rfl, _, hck⟩ := HR.out.2.2.1 k hkl
          obtain ⟨z, hz⟩ : ∃ z, z = Sw.gat L k := ⟨_, rfl⟩
          rw [← hz] at hck HA
          obtain ⟨Q, hQ⟩ : ∃ Q, Q = (L.drop (k + 1)).reverse := ⟨_, rfl⟩
          rw [← hQ] at hO HA
          have HQn : Hid (Q.length = n2) := by show _ = _; rw [hQ, List.length_reverse, List.length_drop]; omega
          have HO := Lib.hid hO.1
          rw [HQn.out] at HO
          have hn9 : n2 ≤ 9 := by omega
          have hb0 : w1.heap.size ≤ wr.heap.size := HR.out.2.1
          have hw2 : IntKind.i64.wrap ((k : Int) - 1) = (k : Int) - 1 := IntWalk.i64_in _ (by omega)
          clear hO hQ hz hnk hx
          go_wp2_with (at_builtin; go_loud (refine wpList_append_lies _ rfl _ _ 23 rfl w1.heap.size 3 i0 (.int .i64 0) 1 8 Try.underlying23 hi hz0 hz1i hz2 rfl (by decide) (.slice A2 n2 c2) n2 (ints Q) rfl (HO.out.alloc _) ⟨wr.heap.size, 0, none⟩ 1 1 [.int .i64 _] rfl rfl (World.news_of_block (heap_alloc_new wr _)) (by intro u hu; simp at hu; subst hu; rfl) (by decide) (by unfold maxLen; omega) (by omega) (by simp; omega) _ rfl ?_); intro g cp w3 hown2 hgr2 hat2 hlt2)
          obtain ⟨q1, q2⟩ := append_int HQn.out hown2 hgr2
          have hbn := below_of_grown (B := w1.heap.size) q2 hb0 (fun q e => (HO.out.lt q e).1)
          have HRn := Lib.hid (HR.out.next hbn (Nat.le_refl _))
          have HOn := Lib.hid q1
          clear hown2 hgr2 hat2 q1 q2 hbn
          go_wp2_with fail
          go_roundw
          case rel => exact ⟨k, _, some ⟨g, 0, none⟩, n2 + 1, cp, by omega, rfl, rfl, by have := HK.out; omega, rfl, by rw [HA.out]; exact HOn.out, HRn.out⟩
          case measure => first | (simp [intOf]; done) | (simp [intOf]; omega)
  · go_enter Try.func5, Try.ntmps5
    go_wp2_with fail
    go_ret
    exact ⟨rfl, Below.refl _ _⟩
namespace rowRankOf
theorem contract (H : Type) (enc : TypeId × Value → H) (W : World) (base : Nat) (args : Array Value) (ds gs : List (DataW H)) (before : List MemPlace)
    (hval : ∀ (j : Nat) t v, Try.f5.params[j]? = some t → args[j]? = some v → Value.okWide Try.prog W .any base t v)
    (hW : DataW.Whole enc Try.prog Try.f5.params.toList Rows.fnRankOfSpec.vars false W args.toList ds gs before) :
    Calls Try.prog 5 args W fun e W' => ∃ v, e = .returned v ∧ Rows.fnRankOfSpec.post enc Try.prog Try.f5 false true false false W args v W' := by
  have hW' := hW
  obtain ⟨p, q, hA0, hV, rfl, _, _⟩ := hW
  obtain ⟨rfl, rfl⟩ := trodVars_none hV
  simp only [List.append_nil] at hW'
  have hlt : ∀ x ∈ p, x.block < W.heap.size := fun x hx => hW'.lt x hx
  have hA : DataW.TrodAll enc Try.prog W 0 (fun _ => true) true Try.f5.params.toList args.toList ds p := hA0
  rw [Try.params5] at hA hval
  obtain ⟨v0, vs0, d0, ds0, p0, q0, hargs, rfl, rfl, h0, r0⟩ := trodAll_cons hA
  obtain ⟨rfl, rfl, rfl⟩ := trodAll_nil r0
  obtain rfl : args = #[v0] := by cases args; simp_all
  obtain ⟨A0, n0, c0, rfl, m0, k0, g0⟩ := open_bytes (hval 0 _ v0 rfl rfl) h0 (fun x hx => hlt x (by simp [hx]))
  refine (lawRankOf A0 n0 c0 m0 k0 W g0).mono fun e W' ⟨he, hg⟩ => ?_
  subst he
  exact ⟨_, rfl, post_true rfl (by kernel_rfl) rfl (by kernel_rfl) hW' hA0 hg⟩
set_option maxRecDepth 100000 in
theorem lifted (os : Os) (started : os.Started) (H : Type) (enc : TypeId × Value → H) :
    ReturnsInHanded {} Try.checked os 5 .any (Rows.fnRankOfSpec.pre6 enc Try.prog Try.f5 Rows.fnRankOfRow.domain false) (Rows.fnRankOfSpec.post enc Try.prog Try.f5 false true false false) := by
  refine returnsInHanded_of_change (C := Try.checked) own_knob started (by kernel_rfl) Try.func5
    (ChangeSpec.witness6 (enc := enc) (C := Try.checked) false ⟨#[], #[.slice none 0 0], []⟩ 8 (by kernel_rfl) (by kernel_rfl) (by kernel_rfl) (by kernel_rfl)) ?_
  intro W base args ds gs before hval hW _ _
  exact contract H enc W base args ds gs before hval hW
end rowRankOf
theorem RankOf_holds : Rows.FnRankOfSaid :=
  OpenClaim.holds_of_wide 5 Try.f5 rfl rfl rfl rfl rfl rfl rfl ⟨rfl, rfl, rfl, rfl, rfl⟩ rfl rfl rfl rfl rfl (by kernel_rfl) Try.func5 (by kernel_rfl)
    (of_decide_eq_true (by kernel_rfl)) (by unfold Func.isWrapper; first | (rw [if_pos (by decide +kernel)]; kernel_rfl) | (rw [if_neg (by decide +kernel)]; exact ⟨rfl, rfl⟩))
    (fun os started H enc _ => rowRankOf.lifted os started H enc)
#print axioms RankOf_holds
end Go.Proofs.Ytooohgjmomhjoaa

