/- Plain laws of graphs: lines have two ends; graphs that hang together have enough lines; a line set; what is alone; covers. No program in sight. No conditions. -/
import Derived.Test.YtmghnfadgnolpaaDoorMath4
namespace Go.Proofs.YtmghnfadgnolpaaDoor.Sw
/-- a sum -/
def sm (n : Nat) (f : Nat → Nat) : Nat := lp (fun k x => x + f k) 0 n
theorem sm_succ (n : Nat) (f : Nat → Nat) : sm (n + 1) f = sm n f + f n := rfl
theorem sm_add (n : Nat) (f g : Nat → Nat) : sm n (fun k => f k + g k) = sm n f + sm n g := lp_add f g n
theorem sm_le {n : Nat} {f g : Nat → Nat} (h : ∀ k, k < n → f k ≤ g k) : sm n f ≤ sm n g := lp_le h
theorem sm_congr {n : Nat} {f g : Nat → Nat} (h : ∀ k, k < n → f k = g k) : sm n f = sm n g := lp_congr fun k x hk => by rw [h k hk]
theorem sm_one {a n : Nat} (h : a < n) : sm n (fun k => if k = a then 1 else 0) = 1 := by
  have := lp_one (a := a) (n := n)
  rw [if_pos h] at this; exact this
theorem cnt_sm {s n : Nat} (h : s < 2 ^ n) (hn : n ≤ 64) : cnt s = sm n (fun k => bit s k) := cnt_sum h hn
theorem degs_sm (G : List Nat) (n : Nat) : degs G n = sm n (fun k => cnt (nb G k)) := rfl
theorem bit_sym {G : List Nat} (hG : GVN G) (a b : Nat) : bit (nb G a) b = bit (nb G b) a := by rw [bit_eq, bit_eq, hG.sym b a]
/-- every line has two ends -/
theorem dbl_even {b : Nat → Nat → Nat} (hs : ∀ i j, b i j = b j i) (hz : ∀ i, b i i = 0) : ∀ m, sm m (fun k => sm m (fun j => b k j)) % 2 = 0
  | 0 => rfl
  | m + 1 => by
    have ih := dbl_even hs hz m
    rw [sm_succ, sm_succ, hz]
    have e1 : sm m (fun k => sm (m + 1) (fun j => b k j)) = sm m (fun k => sm m (fun j => b k j)) + sm m (fun k => b k m) := by rw [← sm_add]; rfl
    have e2 : sm m (fun k => b k m) = sm m (fun j => b m j) := sm_congr fun k _ => hs k m
    rw [e1, e2]; omega
theorem degs_even {G : List Nat} (hG : GVN G) : degs G G.length % 2 = 0 := by
  rw [degs_sm, sm_congr (g := fun k => sm G.length (fun j => bit (nb G k) j)) fun k _ => cnt_sm (hG.lt k) (by have := hG.le; omega)]
  exact dbl_even (fun i j => bit_sym hG i j) (fun i => by rw [bit_eq, hG.irr i]; rfl) _
/-! ### hanging together -/
/-- twice the lines inside s -/
def ins (G : List Nat) (s : Nat) : Nat := sm G.length (fun k => if s.testBit k then cnt (nb G k &&& s) else 0)
theorem cnt_pos_of {s k : Nat} (h : s < 2 ^ 64) (hk : s.testBit k = true) : 1 ≤ cnt s := cnt_pos h (fun e => by subst e; simp at hk)
theorem lt64 {n s : Nat} (hn : n ≤ 9) (h : s < 2 ^ n) : s < 2 ^ 64 := Nat.lt_of_lt_of_le h (Nat.pow_le_pow_right (by decide) (by omega))
theorem cnt_put {s k n : Nat} (hs : s < 2 ^ n) (hk : k < n) (hn : n ≤ 9) (h : s.testBit k = false) : cnt (s ||| 2 ^ k) = cnt s + 1 := by
  rw [cnt_or_disj hs (two_lt' hk) (by omega), cnt_two (by omega)]
  apply Nat.eq_of_testBit_eq
  intro j
  rw [Nat.testBit_and, tb_two, Nat.zero_testBit]
  by_cases q : k = j
  · subst q; simp [h]
  · simp [q]
theorem ins_more {G : List Nat} (hG : GVN G) {s u v : Nat} (hs : s < 2 ^ G.length) (hu : s.testBit u = true) (hv : s.testBit v = false) (huv : (nb G u).testBit v = true) : ins G s + 2 ≤ ins G (s ||| 2 ^ v) := by
  obtain ⟨hun, hvn⟩ := edge_lt hG huv
  have hn := hG.le
  have huv' : u ≠ v := fun e => by subst e; rw [hu] at hv; cases hv
  have hs' : s ||| 2 ^ v < 2 ^ G.length := or_lt hs (two_lt hvn)
  have e : ins G s + 2 = sm G.length (fun k => (if s.testBit k then cnt (nb G k &&& s) else 0) + ((if k = u then 1 else 0) + (if k = v then 1 else 0))) := by
    rw [sm_add, sm_add, sm_one hun, sm_one hvn]; rfl
  rw [e]
  refine sm_le fun k hk => ?_
  have hmono : cnt (nb G k &&& s) ≤ cnt (nb G k &&& (s ||| 2 ^ v)) := cnt_mono (and_lt hs) (and_lt hs') (by omega) fun j hj => by
    rw [Nat.testBit_and, Bool.and_eq_true] at hj ⊢
    rw [Nat.testBit_or, hj.2]; exact ⟨hj.1, rfl⟩
  by_cases q : k = v
  · subst q
    rw [if_neg (by rw [hv]; simp), if_neg (fun e => huv' e.symm), if_pos rfl, if_pos (by rw [Nat.testBit_or, tb_two]; simp)]
    have : (nb G k &&& (s ||| 2 ^ k)).testBit u = true := by
      rw [Nat.testBit_and, Nat.testBit_or, hu, hG.sym u k]
      simp [huv]
    have := cnt_pos_of (lt64 hn (and_lt hs')) this
    omega
  · rw [if_neg q]
    have hbit : (s ||| 2 ^ v).testBit k = s.testBit k := by
      rw [Nat.testBit_or, tb_two, decide_eq_false (fun e => q e.symm), Bool.or_false]
    rw [hbit]
    by_cases r : k = u
    · subst r
      rw [if_pos hu, if_pos hu, if_pos rfl]
      have e2 : nb G k &&& (s ||| 2 ^ v) = (nb G k &&& s) ||| 2 ^ v := by
        apply Nat.eq_of_testBit_eq
        intro j
        rw [Nat.testBit_and, Nat.testBit_or, Nat.testBit_or, Nat.testBit_and, tb_two]
        by_cases w : v = j
        · subst w; simp [huv]
        · simp [w]
      have e3 : (nb G k &&& s).testBit v = false := by rw [Nat.testBit_and, hv, Bool.and_false]
      rw [e2, cnt_put (and_lt hs) hvn hn e3]; omega
    · rw [if_neg r]
      split
      · omega
      · omega
theorem grow_to {G : List Nat} (hG : GVN G) (hw : pt G 0 = 2 ^ G.length - 1) : ∀ m, m < G.length → ∃ s, s < 2 ^ G.length ∧ s.testBit 0 = true ∧ cnt s = m + 1 ∧ 2 * m ≤ ins G s
  | 0, _ => ⟨2 ^ 0, two_lt hG.pos, by rw [tb_two]; rfl, cnt_two (by decide), by omega⟩
  | m + 1, hm => by
    obtain ⟨s, h1, h2, h3, h4⟩ := grow_to hG hw m (by omega)
    have hn := hG.le
    have hnc : ¬ Closed G s := by
      intro hc
      have hsub := pt_least hG hG.pos h2 hc
      rw [hw] at hsub
      have hle := hsub.le
      have : s = 2 ^ G.length - 1 := by omega
      rw [this, cnt_all (by omega)] at h3
      omega
    have hex : ∃ v, (bes G s).testBit v = true ∧ s.testBit v = false := by
      rcases Classical.em (∃ v, (bes G s).testBit v = true ∧ s.testBit v = false) with h | h
      · exact h
      · exfalso
        refine hnc fun j hj => ?_
        cases hq : s.testBit j
        · exact absurd ⟨j, hj, hq⟩ h
        · rfl
    obtain ⟨v, hv1, hv2⟩ := hex
    obtain ⟨u, hu1, hu2⟩ := tb_bes.1 hv1
    have hvn := (edge_lt hG hu2).2
    refine ⟨s ||| 2 ^ v, or_lt h1 (two_lt hvn), by rw [Nat.testBit_or, h2]; rfl, by rw [cnt_put h1 hvn hn hv2, h3], ?_⟩
    have := ins_more hG h1 hu1 hv2 hu2
    omega
theorem ins_le {G : List Nat} (hG : GVN G) {s : Nat} (hs : s < 2 ^ G.length) : ins G s ≤ degs G G.length := by
  rw [degs_sm]
  refine sm_le fun k _ => ?_
  split
  · exact cnt_mono (and_lt hs) (hG.lt k) (by have := hG.le; omega) fun j hj => by
      rw [Nat.testBit_and, Bool.and_eq_true] at hj; exact hj.1
  · omega
/-- a graph that hangs together has at least as many lines as points, less one -/
theorem whole_lines {G : List Nat} (hG : GVN G) (hw : pt G 0 = 2 ^ G.length - 1) : G.length ≤ degs G G.length / 2 + 1 := by
  have hp := hG.pos
  obtain ⟨s, h1, _, _, h4⟩ := grow_to hG hw (G.length - 1) (by omega)
  have := ins_le hG h1
  omega
/-! ### a line set -/
def lineG (G : List Nat) (a b : Nat) (on : Bool) : List Nat := tab G.length (lineF (nb G) a b on)
theorem lineG_len (G : List Nat) (a b : Nat) (on : Bool) : (lineG G a b on).length = G.length := tab_len _ _
theorem nb_lineG {G : List Nat} {a b : Nat} {on : Bool} (k : Nat) (hk : k < G.length) : nb (lineG G a b on) k = lineF (nb G) a b on k := nb_tab _ hk
/-- which lines there are -/
theorem tb_lineG {G : List Nat} (_hG : GVN G) {a b : Nat} {on : Bool} (ha : a < G.length) (hb : b < G.length) (hab : a ≠ b) (k j : Nat) :
    (nb (lineG G a b on) k).testBit j = if (k = a ∧ j = b) ∨ (k = b ∧ j = a) then on else (nb G k).testBit j := by
  by_cases hk : k < G.length
  · rw [nb_lineG k hk]
    unfold lineF
    by_cases q : k = b
    · subst q
      rw [if_pos rfl, tb_setBit]
      by_cases r : j = a
      · subst r; rw [if_pos rfl, if_pos (.inr ⟨rfl, rfl⟩)]
      · rw [if_neg r, if_neg (by rintro (⟨e, _⟩ | ⟨_, e⟩); exact hab e.symm; exact r e)]
    · rw [if_neg q]
      by_cases r : k = a
      · subst r
        rw [if_pos rfl, tb_setBit]
        by_cases t : j = b
        · subst t; rw [if_pos rfl, if_pos (.inl ⟨rfl, rfl⟩)]
        · rw [if_neg t, if_neg (by rintro (⟨_, e⟩ | ⟨e, _⟩); exact t e; exact q e)]
      · rw [if_neg r, if_neg (by rintro (⟨e, _⟩ | ⟨e, _⟩); exact r e; exact q e)]
  · have h1 : nb (lineG G a b on) k = 0 := nb_lt _ _ (by rw [lineG_len]; omega)
    have h2 : nb G k = 0 := nb_lt _ _ (by omega)
    rw [h1, h2, if_neg (by rintro (⟨e, _⟩ | ⟨e, _⟩) <;> omega)]
theorem lineG_lt {G : List Nat} (hG : GVN G) {a b : Nat} {on : Bool} (ha : a < G.length) (hb : b < G.length) (k : Nat) : nb (lineG G a b on) k < 2 ^ G.length := by
  by_cases hk : k < G.length
  · rw [nb_lineG k hk]
    unfold lineF
    split
    · exact setBit_lt _ (hG.lt b) ha
    · split
      · exact setBit_lt _ (hG.lt a) hb
      · exact hG.lt k
  · rw [nb_lt _ _ (by rw [lineG_len]; omega)]; exact two_pow_pos' _
theorem lineG_valid {G : List Nat} (hG : GVN G) {a b : Nat} {on : Bool} (ha : a < G.length) (hb : b < G.length) (hab : a ≠ b) : GVN (lineG G a b on) := by
  refine ⟨by rw [lineG_len]; exact hG.pos, by rw [lineG_len]; exact hG.le, fun k => by rw [lineG_len]; exact lineG_lt hG ha hb k, fun k => ?_, fun j k => ?_⟩
  · rw [tb_lineG hG ha hb hab, if_neg (by rintro (⟨e1, e2⟩ | ⟨e1, e2⟩); exact hab (e1.symm.trans e2); exact hab (e2.symm.trans e1))]
    exact hG.irr k
  · rw [tb_lineG hG ha hb hab, tb_lineG hG ha hb hab]
    by_cases q : (k = a ∧ j = b) ∨ (k = b ∧ j = a)
    · rw [if_pos q, if_pos (by rcases q with ⟨e1, e2⟩ | ⟨e1, e2⟩; exact .inr ⟨e2, e1⟩; exact .inl ⟨e2, e1⟩)]
    · rw [if_neg q, if_neg (by rintro (⟨e1, e2⟩ | ⟨e1, e2⟩); exact q (.inr ⟨e2, e1⟩); exact q (.inl ⟨e2, e1⟩))]
      exact hG.sym j k
theorem graph_ext {G K : List Nat} (_hG : GVN G) (_hK : GVN K) (hl : G.length = K.length) (h : ∀ k j, (nb G k).testBit j = (nb K k).testBit j) : G = K := by
  apply List.ext_getElem?
  intro k
  have e : nb G k = nb K k := Nat.eq_of_testBit_eq (h k)
  by_cases hk : k < G.length
  · rw [List.getElem?_eq_getElem hk, List.getElem?_eq_getElem (by omega)]
    unfold nb at e
    rw [List.getD_eq_getElem?_getD, List.getD_eq_getElem?_getD, List.getElem?_eq_getElem hk, List.getElem?_eq_getElem (by omega)] at e
    exact congrArg some e
  · rw [List.getElem?_eq_none (by omega), List.getElem?_eq_none (by omega)]
/-- set back the graph is as before -/
theorem line_back {G : List Nat} (hG : GVN G) {a b : Nat} {on : Bool} (ha : a < G.length) (hb : b < G.length) (hab : a ≠ b) : lineG (lineG G a b on) b a ((nb G a).testBit b) = G := by
  have h1 := lineG_valid (on := on) hG ha hb hab
  have ha' : a < (lineG G a b on).length := by rw [lineG_len]; exact ha
  have hb' : b < (lineG G a b on).length := by rw [lineG_len]; exact hb
  have h2 := lineG_valid (on := (nb G a).testBit b) h1 hb' ha' (fun e => hab e.symm)
  refine graph_ext h2 hG (by rw [lineG_len, lineG_len]) fun k j => ?_
  rw [tb_lineG h1 hb' ha' (fun e => hab e.symm), tb_lineG hG ha hb hab]
  by_cases q : (k = a ∧ j = b) ∨ (k = b ∧ j = a)
  · rw [if_pos (by rcases q with q | q; exact .inr q; exact .inl q)]
    rcases q with ⟨rfl, rfl⟩ | ⟨rfl, rfl⟩
    · rfl
    · exact hG.sym _ _
  · rw [if_neg (by rintro (q' | q'); exact q (.inr q'); exact q (.inl q')), if_neg q]
theorem line_same {G : List Nat} (hG : GVN G) {a b : Nat} (ha : a < G.length) (hb : b < G.length) (hab : a ≠ b) {on : Bool} (h : (nb G a).testBit b = on) : lineG G a b on = G := by
  refine graph_ext (lineG_valid hG ha hb hab) hG (lineG_len _ _ _ _) fun k j => ?_
  rw [tb_lineG hG ha hb hab]
  by_cases q : (k = a ∧ j = b) ∨ (k = b ∧ j = a)
  · rw [if_pos q, ← h]
    rcases q with ⟨rfl, rfl⟩ | ⟨rfl, rfl⟩
    · rfl
    · exact hG.sym _ _
  · rw [if_neg q]
theorem cnt_setBit {x k n : Nat} (hx : x < 2 ^ n) (hk : k < n) (hn : n ≤ 9) (h : x.testBit k = false) : cnt (setBit x k true) = cnt x + 1 := by
  rw [← setBit_on]; exact cnt_put hx hk hn h
/-- a line more: two ends more -/
theorem line_more {G : List Nat} (hG : GVN G) {a b : Nat} (ha : a < G.length) (hb : b < G.length) (hab : a ≠ b) (h : (nb G a).testBit b = false) : degs (lineG G a b true) (lineG G a b true).length = degs G G.length + 2 := by
  have hn := hG.le
  rw [lineG_len, degs_sm, degs_sm]
  have e : sm G.length (fun k => cnt (nb G k)) + 2 = sm G.length (fun k => cnt (nb G k) + ((if k = a then 1 else 0) + (if k = b then 1 else 0))) := by
    rw [sm_add, sm_add, sm_one ha, sm_one hb]
  rw [e]
  refine sm_congr fun k hk => ?_
  rw [nb_lineG k hk]
  unfold lineF
  by_cases q : k = b
  · subst q
    rw [if_pos rfl, if_neg (fun e => hab e.symm), if_pos rfl, cnt_setBit (hG.lt k) ha hn (by rw [hG.sym a k]; exact h)]
  · rw [if_neg q, if_neg q]
    by_cases r : k = a
    · subst r; rw [if_pos rfl, if_pos rfl, cnt_setBit (hG.lt k) hb hn h]
    · rw [if_neg r, if_neg r]; rfl
/-- what becomes of the number of lines -/
theorem line_lines {G : List Nat} (hG : GVN G) {a b : Nat} (ha : a < G.length) (hb : b < G.length) (hab : a ≠ b) (on : Bool) :
    ((nb G a).testBit b = on → degs (lineG G a b on) (lineG G a b on).length / 2 = degs G G.length / 2) ∧
    ((nb G a).testBit b = false → on = true → degs (lineG G a b on) (lineG G a b on).length / 2 = degs G G.length / 2 + 1) ∧
    ((nb G a).testBit b = true → on = false → degs (lineG G a b on) (lineG G a b on).length / 2 + 1 = degs G G.length / 2) := by
  refine ⟨fun h => by rw [line_same hG ha hb hab h], fun h ho => by subst ho; rw [line_more hG ha hb hab h]; omega, fun h ho => ?_⟩
  subst ho
  have h1 := lineG_valid (on := false) hG ha hb hab
  have ha' : a < (lineG G a b false).length := by rw [lineG_len]; exact ha
  have hb' : b < (lineG G a b false).length := by rw [lineG_len]; exact hb
  have h2 : (nb (lineG G a b false) b).testBit a = false := by rw [tb_lineG hG ha hb hab, if_pos (.inr ⟨rfl, rfl⟩)]
  have h3 := line_more h1 hb' ha' (fun e => hab e.symm) h2
  have h4 := line_back (on := false) hG ha hb hab
  rw [h] at h4
  rw [h4] at h3
  omega
/-! ### beside -/
theorem beside_some {G : List Nat} (hG : GVN G) (S k : Nat) : (nb G k &&& S ≠ 0) ↔ (bes G S).testBit k = true := by
  rw [tb_bes]
  constructor
  · intro h
    rcases Classical.em (∃ i, (nb G k &&& S).testBit i = true) with ⟨i, hi⟩ | h'
    · rw [Nat.testBit_and, Bool.and_eq_true] at hi
      exact ⟨i, hi.2, by rw [hG.sym k i]; exact hi.1⟩
    · exfalso
      apply h
      apply Nat.eq_of_testBit_eq
      intro i
      rw [Nat.zero_testBit]
      cases q : (nb G k &&& S).testBit i
      · rfl
      · exact absurd ⟨i, q⟩ h'
  · rintro ⟨i, h1, h2⟩ e
    have : (nb G k &&& S).testBit i = true := by rw [Nat.testBit_and, h1, hG.sym i k, h2]; rfl
    rw [e] at this; simp at this
theorem sub_and {a b : Nat} (h : Sub a b) : a &&& b = a := by
  apply Nat.eq_of_testBit_eq
  intro j
  rw [Nat.testBit_and]
  cases q : a.testBit j
  · rfl
  · rw [h j q]; rfl
theorem sub_all {s n : Nat} (h : s < 2 ^ n) : Sub s (2 ^ n - 1) := fun j hj => by
  rw [tb_all, decide_eq_true_eq]
  rcases Nat.lt_or_ge j n with q | q
  · exact q
  · rw [tb_lt h q] at hj; cases hj
/-! ### no lines -/
theorem zeros_valid {n : Nat} (h1 : 1 ≤ n) (h9 : n ≤ 9) : GVN (List.replicate n 0) := by
  have hz : ∀ k, nb (List.replicate n 0) k = 0 := fun k => by
    unfold nb
    rw [List.getD_eq_getElem?_getD, List.getElem?_replicate]
    split <;> rfl
  refine ⟨by simpa using h1, by simpa using h9, fun k => by rw [hz]; exact two_pow_pos' _, fun k => by rw [hz]; simp, fun j k => by rw [hz, hz]; simp⟩
theorem nb_zeros (n k : Nat) : nb (List.replicate n 0) k = 0 := by
  unfold nb
  rw [List.getD_eq_getElem?_getD, List.getElem?_replicate]
  split <;> rfl
theorem gvB_nil : gvB [] = false := gvB_false.2 fun h => by have := h.len; simp at this
theorem toI_zeros (n : Nat) : toI (List.replicate n 0) = List.replicate n 0 := by unfold toI; simp
/-- a point beside itself -/
theorem gvB_self {G : List Nat} (hG : GVN G) : gvB ((toI G).set 0 (gat (toI G) 0 + 1)) = false := by
  rw [gvB_false]
  intro h
  have h1 := (h.one 0).2.2
  rw [gat_set _ _ _ _ (by rw [toI_len]; exact hG.pos), if_pos rfl, gat_toI] at h1
  have h2 := hG.irr 0
  have h3 : bit (nb G 0) 0 = 0 := by rw [bit_eq, h2]; rfl
  unfold bit at h3
  unfold ibit at h1
  simp only [Int.pow_zero, Int.ediv_one, Nat.pow_zero, Nat.div_one] at h1 h3
  omega
end Go.Proofs.YtmghnfadgnolpaaDoor.Sw

