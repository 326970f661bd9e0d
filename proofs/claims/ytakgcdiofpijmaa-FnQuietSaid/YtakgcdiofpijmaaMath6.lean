/- Plain laws of OutMany and WorstOut. No program in sight. No conditions. -/
import Derived.Test.YtakgcdiofpijmaaMath
namespace Go.Proofs.Ytakgcdiofpijmaa.Sw
/-- one more -/
theorem cl_add {p q : Nat → Bool} {v : Nat} (hp : p v = false) (hq : q v = true) (h : ∀ u, u ≠ v → q u = p u) : ∀ {m : Nat}, v < m → cl q m = cl p m + 1
  | 0, hv => by omega
  | m + 1, hv => by
    rw [cl_succ, cl_succ]
    by_cases e : v = m
    · subst e
      rw [hp, hq, cl_congr (p := q) (q := p) (fun u hu => h u (by omega))]; rfl
    · rw [h m (fun r => e r.symm), cl_add hp hq h (show v < m by omega)]
      split <;> rfl
theorem cl_le (p : Nat → Bool) : ∀ m, cl p m ≤ m
  | 0 => Nat.le_refl _
  | m + 1 => by
    have := cl_le p m
    rw [cl_succ]; split <;> omega
/-- which lights are sums of the first k sets' presses, as bits -/
structure Seen (G : List Nat) (k c : Nat) : Prop where
  bit : ∀ v, c.testBit v = true ↔ ∃ j, j < k ∧ prs G j = v
theorem Seen.zero (G : List Nat) : Seen G 0 0 := ⟨fun v => ⟨fun h => by simp at h, fun ⟨j, hj, _⟩ => by omega⟩⟩
theorem Seen.old {G : List Nat} {k c : Nat} (h : Seen G k c) (hb : c.testBit (prs G k) = true) : Seen G (k + 1) c := by
  refine ⟨fun v => (h.bit v).trans ⟨fun ⟨j, hj, e⟩ => ⟨j, by omega, e⟩, fun ⟨j, hj, e⟩ => ?_⟩⟩
  rcases Nat.lt_succ_iff_lt_or_eq.1 hj with q | q
  · exact ⟨j, q, e⟩
  · subst q
    have := (h.bit _).1 hb
    rw [e] at this; exact this
theorem Seen.new {G : List Nat} {k c : Nat} (h : Seen G k c) : Seen G (k + 1) (c ||| 2 ^ prs G k) := by
  refine ⟨fun v => ?_⟩
  rw [Nat.testBit_or, tb_two, Bool.or_eq_true, h.bit, decide_eq_true_eq]
  constructor
  · rintro (⟨j, hj, e⟩ | e)
    · exact ⟨j, by omega, e⟩
    · exact ⟨k, by omega, e⟩
  · rintro ⟨j, hj, e⟩
    rcases Nat.lt_succ_iff_lt_or_eq.1 hj with q | q
    · exact .inl ⟨j, q, e⟩
    · subst q; exact .inr e
theorem cl_new {c v m : Nat} (h : c.testBit v = false) (hv : v < m) : cl (fun u => (c ||| 2 ^ v).testBit u) m = cl (fun u => c.testBit u) m + 1 := by
  refine cl_add (v := v) h ?_ (fun u hu => ?_) hv
  · show (c ||| 2 ^ v).testBit v = true
    rw [Nat.testBit_or, tb_two]; simp
  · show (c ||| 2 ^ v).testBit u = c.testBit u
    rw [Nat.testBit_or, tb_two, decide_eq_false (fun e => hu e.symm), Bool.or_false]
open Classical in
/-- so many lights can be put out -/
theorem Seen.count {G : List Nat} (hG : GVN G) {c : Nat} (h : Seen G (2 ^ G.length) c) : cl (fun u => c.testBit u) (2 ^ G.length) = 2 ^ rank G.length (row G) := by
  rw [← sz_rank (N := G.length) hG.le hG.le (fun k hk => row_lt hG hk), cl_cb]
  unfold sz
  apply cb_congr
  intro v _
  rw [Bool.eq_iff_iff, h.bit, decide_eq_true_eq]
  have := span_xsK (R := row G) G.length v
  exact this.symm
theorem rank_congr {n : Nat} {f g : Nat → Nat} (hn : n ≤ 9) (hf : ∀ j, j < n → f j < 2 ^ 9) (h : ∀ j, j < n → f j = g j) : rank n f = rank n g := by
  have e : tab n f = tab n g := tab_congr h
  refine rank_of_sz hn hn hf (fun j hj => by rw [← h j hj]; exact hf j hj) (fun j hj => ?_) (fun j hj => ?_)
  · rw [← e]; exact Span.mem (mem_tab.2 ⟨j, hj, rfl⟩)
  · rw [e]; exact Span.mem (mem_tab.2 ⟨j, hj, rfl⟩)
/-! ## the worst lights -/
/-- so many points put the lights out at least, with the first k sets; -1 if none of them does -/
def oc (G : List Nat) (k v : Nat) : Int := match obK G v k with | none => -1 | some b => (cnt b : Nat)
theorem oc_none {G : List Nat} {k v : Nat} (h : obK G v k = none) : oc G k v = -1 := by unfold oc; rw [h]
theorem oc_some {G : List Nat} {k v b : Nat} (h : obK G v k = some b) : oc G k v = (cnt b : Nat) := by unfold oc; rw [h]
theorem oc_zero (G : List Nat) (v : Nat) : oc G 0 v = -1 := rfl
theorem oc_far {G : List Nat} {k v : Nat} (h : v ≠ prs G k) : oc G (k + 1) v = oc G k v := by
  unfold oc; rw [obK_succ, if_neg (fun e => h e.symm)]
theorem oc_take {G : List Nat} {k : Nat} (h : oc G k (prs G k) < 0 ∨ ((cnt k : Nat) : Int) < oc G k (prs G k)) : oc G (k + 1) (prs G k) = (cnt k : Nat) := by
  cases hO : obK G (prs G k) k with
  | none => exact oc_some (by rw [obK_succ, if_pos rfl, hO])
  | some b =>
    rw [oc_some hO] at h
    refine oc_some ?_
    rw [obK_succ, if_pos rfl, hO]
    show (if _ then _ else _) = _
    rw [if_pos (by omega)]
theorem oc_leave {G : List Nat} {k : Nat} (h : ¬ (oc G k (prs G k) < 0 ∨ ((cnt k : Nat) : Int) < oc G k (prs G k))) : oc G (k + 1) (prs G k) = oc G k (prs G k) := by
  cases hO : obK G (prs G k) k with
  | none => rw [oc_none hO] at h; exact absurd (.inl (by decide)) h
  | some b =>
    rw [oc_some hO] at h ⊢
    refine oc_some ?_
    rw [obK_succ, if_pos rfl, hO]
    show (if _ then _ else _) = _
    rw [if_neg (by omega)]
theorem oc_bd (G : List Nat) (k v : Nat) (hk : k ≤ 512) : -1 ≤ oc G k v ∧ oc G k v ≤ 64 := by
  cases hO : obK G v k with
  | none => rw [oc_none hO]; omega
  | some b =>
    rw [oc_some hO]
    have h1 := (obK_some G v k b hO).1
    have := cnt_le (s := b) (n := 64) (by omega) (by omega)
    omega
/-- the greatest of them, over the first j lights -/
def woK (G : List Nat) (j : Nat) : Int := lp (fun v x => max x (oc G (2 ^ G.length) v)) 0 j
theorem woK_succ (G : List Nat) (j : Nat) : woK G (j + 1) = max (woK G j) (oc G (2 ^ G.length) j) := rfl
theorem woK_bd {G : List Nat} (hn : G.length ≤ 9) : ∀ j, 0 ≤ woK G j ∧ woK G j ≤ 64
  | 0 => by show (0 : Int) ≤ 0 ∧ (0 : Int) ≤ 64; omega
  | j + 1 => by
    have h1 := woK_bd hn j
    have h2 := oc_bd G (2 ^ G.length) j (pow_le9 hn)
    rw [woK_succ]; omega
def wo (G : List Nat) : Int := woK G (2 ^ G.length)
/-- the reference begins with -1 -/
def wsK (G : List Nat) (j : Nat) : Int := if j = 0 then -1 else woK G j
theorem wsK_zero (G : List Nat) : wsK G 0 = -1 := rfl
theorem oc_first (G : List Nat) : oc G (2 ^ G.length) 0 = 0 := by
  have h0 : ∀ k, obK G 0 (k + 1) = some 0 := by
    intro k
    induction k with
    | zero => rw [obK_succ, if_pos (prs_zero G)]; rfl
    | succ k ih =>
      rw [obK_succ, ih]
      split
      · show (if _ then _ else _) = _
        rw [if_neg (by rw [cnt_zero]; omega)]
      · rfl
  have hp := two_pow_pos' G.length
  obtain ⟨m, hm⟩ : ∃ m, 2 ^ G.length = m + 1 := ⟨2 ^ G.length - 1, by omega⟩
  rw [hm, oc_some (h0 m), cnt_zero]; rfl
theorem wsK_some {G : List Nat} (_hn : G.length ≤ 9) {j b : Nat} (h : ob G j = some b) : wsK G (j + 1) = max (wsK G j) (cnt b : Nat) := by
  have e : oc G (2 ^ G.length) j = (cnt b : Nat) := oc_some h
  unfold wsK
  rw [if_neg (by omega), woK_succ, e]
  by_cases q : j = 0
  · subst q; rw [if_pos rfl]
    have e2 := oc_first G
    rw [e] at e2
    rw [e2]; rfl
  · rw [if_neg q]
theorem wsK_none {G : List Nat} (hn : G.length ≤ 9) {j : Nat} (h : ob G j = none) : wsK G (j + 1) = wsK G j := by
  have e : oc G (2 ^ G.length) j = -1 := oc_none h
  unfold wsK
  rw [if_neg (by omega), woK_succ, e]
  have hb := (woK_bd hn j).1
  by_cases q : j = 0
  · subst q
    have e2 := oc_first G
    rw [e] at e2; omega
  · rw [if_neg q]; omega
theorem wsK_bd {G : List Nat} (hn : G.length ≤ 9) (j : Nat) : -1 ≤ wsK G j ∧ wsK G j ≤ 64 := by
  have := woK_bd hn j
  unfold wsK; split <;> omega
theorem wsK_end (G : List Nat) : wsK G (2 ^ G.length) = wo G := by
  have hp := two_pow_pos' G.length
  unfold wsK wo; rw [if_neg (by omega)]
noncomputable def vWo (l : List Int) : Int := ifG l (wo (toN l))
theorem vWo_no {l : List Int} (h : gvB l = false) : vWo l = -1 := ifG_no h
theorem vWo_yes {G : List Nat} (hG : GVN G) : vWo (toI G) = wo G := by unfold vWo; rw [ifG_yes hG, toN_toI]
end Go.Proofs.Ytakgcdiofpijmaa.Sw

