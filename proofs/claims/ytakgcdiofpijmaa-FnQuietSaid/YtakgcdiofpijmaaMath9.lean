/- Plain laws of presses, quiet sets and ranks. No program in sight. No conditions. -/
import Derived.Test.YtakgcdiofpijmaaMath5
import Derived.Test.YtakgcdiofpijmaaMath6
import Derived.Test.YtakgcdiofpijmaaMath7
namespace Go.Proofs.Ytakgcdiofpijmaa.Sw
/-! ### presses -/
theorem xor_same (a b : Nat) : a ^^^ b ^^^ b = a := xor_cancel a b
theorem row_ne {G : List Nat} (hG : GVN G) (S k : Nat) : S ^^^ row G k ≠ S := by
  intro h
  have h1 := congrArg (fun x => x.testBit k) h
  simp only [Nat.testBit_xor, row_self hG k] at h1
  cases S.testBit k <;> simp at h1
/-- bit j of a sum of rows: the parity of how many have it -/
theorem tb_xsK (R : Nat → Nat) (s j : Nat) : ∀ k, (xsK R s k).testBit j = decide (sm k (fun i => if s.testBit i = true ∧ (R i).testBit j = true then 1 else 0) % 2 = 1)
  | 0 => by rw [xsK_zero]; simp [sm, lp]
  | k + 1 => by
    rw [xsK_succ, sm_succ]
    have ih := tb_xsK R s j k
    by_cases h1 : s.testBit k = true
    · rw [if_pos h1, Nat.testBit_xor, ih]
      by_cases h2 : (R k).testBit j = true
      · rw [if_pos ⟨h1, h2⟩, h2]
        generalize sm k _ = m
        by_cases q : m % 2 = 1
        · have : ¬ (m + 1) % 2 = 1 := by omega
          simp [q, this]
        · have : (m + 1) % 2 = 1 := by omega
          simp [q, this]
      · rw [if_neg (fun h => h2 h.2)]
        simp only [Bool.not_eq_true] at h2
        rw [h2, Bool.xor_false, Nat.add_zero]
    · rw [if_neg h1, ih, if_neg (fun h => h1 h.1), Nat.add_zero]
theorem tb_prs {G : List Nat} (hG : GVN G) {S : Nat} (hS : S < 2 ^ G.length) {j : Nat} (hj : j < G.length) : (prs G S).testBit j = decide ((cnt (nb G j &&& S) + bit S j) % 2 = 1) := by
  have hn := hG.le
  unfold prs
  rw [tb_xsK]
  have e : sm G.length (fun i => if S.testBit i = true ∧ (row G i).testBit j = true then 1 else 0) = cnt (nb G j &&& S) + bit S j := by
    rw [cnt_sm (and_lt hS) (by omega)]
    have e2 : bit S j = sm G.length (fun i => if i = j then bit S j else 0) := by
      have : ∀ n, sm n (fun i => if i = j then bit S j else 0) = if j < n then bit S j else 0 := by
        intro n
        induction n with
        | zero => rfl
        | succ n ih =>
          rw [sm_succ, ih]
          by_cases q : n = j
          · subst q; simp
          · by_cases r : j < n
            · rw [if_pos r, if_neg q, if_pos (by omega), Nat.add_zero]
            · rw [if_neg r, if_neg q, if_neg (by omega)]
      rw [this, if_pos hj]
    rw [e2, ← sm_add]
    refine sm_congr fun i _ => ?_
    rw [row_sym hG i j, tb_row, bit_eq, Nat.testBit_and]
    by_cases q : i = j
    · subst q
      rw [hG.irr i, if_pos rfl, bit_eq]
      cases S.testBit i <;> simp
    · rw [if_neg q, decide_eq_false (fun h => q h.symm), Bool.xor_false]
      cases S.testBit i <;> cases (nb G j).testBit i <;> simp
  rw [e]
/-- quiet: every point has an even number of points of the set beside it, or an odd one, if it is in it -/
def evB (G : List Nat) (S k : Nat) : Bool := lp (fun j x => x && decide ((cnt (nb G j &&& S) + bit S j) % 2 = 0)) true k
theorem evB_succ (G : List Nat) (S k : Nat) : evB G S (k + 1) = (evB G S k && decide ((cnt (nb G k &&& S) + bit S k) % 2 = 0)) := rfl
theorem evB_iff {G : List Nat} {S : Nat} : ∀ k, evB G S k = true ↔ ∀ j, j < k → (cnt (nb G j &&& S) + bit S j) % 2 = 0
  | 0 => ⟨fun _ j hj => by omega, fun _ => rfl⟩
  | k + 1 => by
    rw [evB_succ, Bool.and_eq_true, evB_iff k, decide_eq_true_eq]
    constructor
    · rintro ⟨h1, h2⟩ j hj
      rcases Nat.lt_succ_iff_lt_or_eq.1 hj with q | q
      · exact h1 j q
      · subst q; exact h2
    · exact fun h => ⟨fun j hj => h j (by omega), h k (by omega)⟩
theorem quiet_even {G : List Nat} (hG : GVN G) {S : Nat} (hS : S < 2 ^ G.length) : evB G S G.length = decide (prs G S = 0) := by
  rw [Bool.eq_iff_iff, evB_iff, decide_eq_true_eq]
  constructor
  · intro h
    refine eq_of_tb (prs_lt hG S) (two_pow_pos' _) fun j hj => ?_
    rw [Nat.zero_testBit, tb_prs hG hS hj]
    have := h j hj
    exact decide_eq_false (by omega)
  · intro h j hj
    have := tb_prs hG hS hj
    rw [h, Nat.zero_testBit] at this
    have := of_decide_eq_false this.symm
    omega
/-- who was pressed an odd number of times -/
def oddK (P : List Int) (k : Nat) : Nat := lp (fun j x => x ^^^ 2 ^ (gat P j).toNat) 0 k
theorem oddK_succ (P : List Int) (k : Nat) : oddK P (k + 1) = oddK P k ^^^ 2 ^ (gat P k).toNat := rfl
theorem run_some {G : List Nat} {S : Nat} {P : List Int} (hrun : run G S P ≠ -1) : ∃ T, runK G S P P.length = some T ∧ run G S P = (T : Int) := by
  rw [run_def] at hrun ⊢
  cases h : runK G S P P.length with
  | none => rw [h] at hrun; exact absurd rfl hrun
  | some T => exact ⟨T, rfl, rfl⟩
theorem runK_before {G : List Nat} {S : Nat} {P : List Int} {m : Nat} (h : ∃ T, runK G S P m = some T) {k : Nat} (hk : k ≤ m) : ∃ T, runK G S P k = some T := by
  cases q : runK G S P k with
  | none =>
    obtain ⟨T, hT⟩ := h
    rw [runK_none q hk] at hT; cases hT
  | some T => exact ⟨T, rfl⟩
theorem run_points {G : List Nat} {S : Nat} {P : List Int} (hrun : run G S P ≠ -1) {k : Nat} (hk : k < P.length) : 0 ≤ gat P k ∧ gat P k < G.length := by
  obtain ⟨T, hT, _⟩ := run_some hrun
  obtain ⟨U, hU⟩ := runK_before ⟨T, hT⟩ (show k + 1 ≤ P.length by omega)
  obtain ⟨V, hV⟩ := runK_before ⟨T, hT⟩ (show k ≤ P.length by omega)
  rw [runK_succ, hV] at hU
  rcases Classical.em (0 ≤ gat P k ∧ gat P k < G.length) with h | h
  · exact h
  · rw [runStep_no (by omega)] at hU; cases hU
theorem odd_lt {G : List Nat} {S : Nat} {P : List Int} (hrun : run G S P ≠ -1) : ∀ k, k ≤ P.length → oddK P k < 2 ^ G.length
  | 0, _ => two_pow_pos' _
  | k + 1, hk => by
    have h := run_points hrun (show k < P.length by omega)
    rw [oddK_succ]
    exact xor_lt (odd_lt hrun k (by omega)) (two_lt' (by omega))
theorem run_odd {G : List Nat} {S : Nat} {P : List Int} (hrun : run G S P ≠ -1) : ∀ k, k ≤ P.length → runK G S P k = some (S ^^^ prs G (oddK P k))
  | 0, _ => by show some S = some (S ^^^ prs G 0); rw [prs_zero, Nat.xor_zero]
  | k + 1, hk => by
    have h := run_points hrun (show k < P.length by omega)
    obtain ⟨q, hq⟩ := Int.eq_ofNat_of_zero_le h.1
    have hqn : q < G.length := by omega
    rw [runK_succ, run_odd hrun k (by omega), runStep_yes hq hqn, oddK_succ, prs_xor, hq]
    simp only [Int.toNat_natCast]
    rw [prs_two hqn, Nat.xor_assoc]
/-- THE LAW of PressRun -/
theorem run_law {G : List Nat} {S : Nat} {P : List Int} (hrun : run G S P ≠ -1) : run G S P = ((S ^^^ prs G (oddK P P.length) : Nat) : Int) := by
  rw [run_def, run_odd hrun P.length (Nat.le_refl _)]; rfl
/-! ### what can be put out, and what is quiet -/
theorem out_quiet {G : List Nat} (hG : GVN G) : 2 ^ rank G.length (row G) * (qs G).length = 2 ^ G.length := by
  have hn := hG.le
  have hrow : ∀ k, (fun k => if k < G.length then row G k else 0) k < 2 ^ G.length := fun k => by
    show (if k < G.length then row G k else 0) < _
    split
    · rename_i h; exact row_lt hG h
    · exact two_pow_pos' _
  have h := sz_times_kernel hrow G.length
  have e1 : (List.range G.length).map (fun k => if k < G.length then row G k else 0) = tab G.length (row G) := tab_congr fun k hk => if_pos hk
  rw [e1, sz_rank hn hn (fun k hk => row_lt hG hk)] at h
  have e2 : (qs G).length = cb G.length (fun m => decide (xsK (fun k => if k < G.length then row G k else 0) m G.length = 0)) := by
    show ((List.range (2 ^ G.length)).filter fun s => prs G s == 0).length = _
    rw [cl_filter, cl_cb]
    congr 1
    funext m
    rw [xsK_congr (S := row G) m (fun j hj => if_pos hj)]
    show (prs G m == 0) = decide (prs G m = 0)
    by_cases q : prs G m = 0 <;> simp [q]
  rw [e2]; exact h
/-! ### ranks -/
/-- rows in a list -/
def rkL (R : List Nat) : Nat := rank R.length (nb R)
theorem rkL_span {R K : List Nat} (hR : R.length ≤ 9) (hK : K.length ≤ 9) (h1 : ∀ r ∈ R, r < 2 ^ 9) (h2 : ∀ r ∈ K, r < 2 ^ 9) (s1 : ∀ r ∈ R, Span K r) (s2 : ∀ r ∈ K, Span R r) : rkL R = rkL K := by
  have hm : ∀ (R : List Nat) (j : Nat), j < R.length → nb R j ∈ R := fun R j hj => by
    unfold nb
    rw [List.getD_eq_getElem?_getD, List.getElem?_eq_getElem hj]
    exact List.getElem_mem hj
  have ht : ∀ R : List Nat, tab R.length (nb R) = R := fun R => (tab_of R 0).symm
  exact rank_of_sz hR hK (fun j hj => h1 _ (hm R j hj)) (fun j hj => h2 _ (hm K j hj)) (fun j hj => by rw [ht]; exact s1 _ (hm R j hj)) (fun j hj => by rw [ht]; exact s2 _ (hm K j hj))
theorem rkL_le {R : List Nat} (hR : R.length ≤ 9) (h1 : ∀ r ∈ R, r < 2 ^ 9) : rkL R ≤ R.length := by
  refine rank_le hR fun j hj => h1 _ ?_
  unfold nb
  rw [List.getD_eq_getElem?_getD, List.getElem?_eq_getElem hj]
  exact List.getElem_mem hj
theorem rkL_back {R : List Nat} (hR : R.length ≤ 9) (h1 : ∀ r ∈ R, r < 2 ^ 9) : rkL R.reverse = rkL R :=
  rkL_span (by simpa using hR) hR (fun r hr => h1 r (List.mem_reverse.1 hr)) h1 (fun r hr => Span.mem (List.mem_reverse.1 hr)) (fun r hr => Span.mem (List.mem_reverse.2 hr))
theorem rkL_twice {R : List Nat} {x : Nat} (hR : R.length < 9) (h1 : ∀ r ∈ R, r < 2 ^ 9) (hx : x ∈ R) : rkL (R ++ [x]) = rkL R := by
  have h2 : ∀ r ∈ R ++ [x], r ∈ R := fun r hr => by
    rcases List.mem_append.1 hr with q | q
    · exact q
    · rw [List.mem_singleton] at q; rw [q]; exact hx
  exact rkL_span (by simp; omega) (by omega) (fun r hr => h1 r (h2 r hr)) h1 (fun r hr => Span.mem (h2 r hr)) (fun r hr => Span.mem (List.mem_append_left _ hr))
theorem rkL_sum {x y : Nat} {R : List Nat} (hR : R.length + 2 ≤ 9) (h1 : ∀ r ∈ x :: y :: R, r < 2 ^ 9) : rkL ((x ^^^ y) :: y :: R) = rkL (x :: y :: R) := by
  refine rkL_span (by simp; omega) (by simp; omega) (fun r hr => ?_) h1 (fun r hr => ?_) (fun r hr => ?_)
  · rcases List.mem_cons.1 hr with q | q
    · rw [q]; exact xor_lt (h1 x (by simp)) (h1 y (by simp))
    · exact h1 r (List.mem_cons_of_mem _ q)
  · rcases List.mem_cons.1 hr with q | q
    · rw [q]; exact (Span.mem (by simp)).xor (Span.mem (by simp))
    · exact Span.mem (List.mem_cons_of_mem _ q)
  · rcases List.mem_cons.1 hr with q | q
    · rw [q]
      have h := (Span.mem (R := (x ^^^ y) :: y :: R) (r := x ^^^ y) (by simp)).xor (Span.mem (R := (x ^^^ y) :: y :: R) (r := y) (by simp))
      rw [xor_cancel] at h; exact h
    · exact Span.mem (List.mem_cons_of_mem _ q)
end Go.Proofs.Ytakgcdiofpijmaa.Sw

