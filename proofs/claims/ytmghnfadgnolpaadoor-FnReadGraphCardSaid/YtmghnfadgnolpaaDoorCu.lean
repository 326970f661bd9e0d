/- The reference's cut of a text and its number of a text, by their contracts. Conditions: at most 2^40 bytes. -/
import Derived.Test.YtmghnfadgnolpaaDoorMath15
import Derived.Test.YtmghnfadgnolpaaDoorOwn
import Derived.Test.YtmghnfadgnolpaaDoorRt
import Derived.Laws.AppendOwn
import Derived.Laws.Strings3
namespace Go.Proofs.YtmghnfadgnolpaaDoor
open Go.RowKit
theorem info_str : (Tryd.prog.info? 9).map (fun i => (i.zero, i.size, i.bytes)) = some (some (.string ByteArray.empty), 1, 16) := by kernel_rfl
def strs (L : List (List UInt8)) : List Value := L.map fun l => .string ⟨l.toArray⟩
theorem strs_len (L : List (List UInt8)) : (strs L).length = L.length := by simp [strs]
theorem strs_snoc (L : List (List UInt8)) (x : List UInt8) : strs (L ++ [x]) = strs L ++ [.string ⟨x.toArray⟩] := by simp [strs]
/-- the slice v is a row of the call's own; it holds the texts L -/
def OwnS (w : World) (lo : Nat) (v : Value) (L : List (List UInt8)) : Prop := w.ownsRow lo 9 1 v L.length (strs L)
theorem piece_mk (l : List UInt8) (a b : Nat) : (ByteArray.mk l.toArray).extract a b = ⟨(Sw.piece l a b).toArray⟩ := ByteArray.extract_mk l a b
theorem slice_at (l : List UInt8) (a b : Nat) (hab : a ≤ b) (hb : b ≤ l.length) (W : World) : (Instr.slice 9 (.string ⟨l.toArray⟩) (some (.int .i64 a)) (some (.int .i64 b)) none).run Tryd.prog W = .ok (.string ⟨(Sw.piece l a b).toArray⟩) W := by
  rw [run_slice_string W 9 ⟨l.toArray⟩ .i64 .i64 (a : Int) (b : Int) Tryd.underlying9 (by omega) (by omega) (by rw [sizeL l]; omega), ← piece_mk]
  rfl
theorem slice_from (l : List UInt8) (a : Nat) (ha : a ≤ l.length) (W : World) : (Instr.slice 9 (.string ⟨l.toArray⟩) (some (.int .i64 a)) none none).run Tryd.prog W = .ok (.string ⟨(Sw.piece l a l.length).toArray⟩) W := by
  rw [run_slice_string_from_if W 9 ⟨l.toArray⟩ .i64 (a : Int) Tryd.underlying9, if_pos ⟨by omega, by rw [sizeL l]; omega⟩, sizeL l, ← piece_mk]
  rfl
/-- one text appended -/
theorem append_str {w wr w2 : World} {lo : Nat} {o : Obj} {v v' : Value} {L : List (List UInt8)} {x : List UInt8} (hb : Below lo w wr) (hlo : lo ≤ w.heap.size) (hO : OwnS wr lo v L)
    (hown : w2.ownsRow lo 9 1 v' (L.length + 1) (strs L ++ [.string ⟨x.toArray⟩])) (hg : (wr.alloc o).grownBy w2 v.ownBlock) : OwnS w2 lo v' (L ++ [x]) ∧ Below lo w w2 := by
  refine ⟨?_, (hb.trans ((below1 o).mono (by have := hb.size; omega))).grown hg (by have := hb.size; simp; omega) (fun g h => (hO.lt g h).1)⟩
  unfold OwnS
  rw [strs_snoc, List.length_append]
  exact hown
set_option maxRecDepth 100000 in
set_option maxHeartbeats 4000000 in
theorem l1Cut (c : Nat) (hc : c ≤ 255) (l : List UInt8) (hl : l.length ≤ 1099511627776) (w : World) :
    Calls Tryd.prog 28 #[.string ⟨l.toArray⟩, .int .u8 c] w fun e w' => ∃ v, e = .returned v ∧ OwnS w' w.heap.size v (Sw.cutL c l) ∧ Below w.heap.size w w' := by
  have hsz := sizeL l
  have HIA := Lib.hid (fun k hk x hx => idx_at l k hk x hx)
  have HSA := Lib.hid (fun a b h1 h2 => slice_at l a b h1 h2)
  have HSF := Lib.hid (fun a h => slice_from l a h)
  obtain ⟨S, hS⟩ : ∃ S : ByteArray, S = ⟨l.toArray⟩ := ⟨_, rfl⟩
  rw [← hS] at hsz HIA HSA HSF ⊢
  clear hS
  obtain ⟨i0, hi, hz0, hz1, hz2⟩ := info_parts info_str
  go_enter Tryd.func28, Tryd.ntmps28
  go_wp2_with fail
  go_loopw [5, 6, 7] (fun o f i wr => ∃ k : Nat, k ≤ l.length ∧ i = .int .i64 k ∧ f = .int .i64 ((Sw.cutS c l k).2 : Nat) ∧ OwnS wr w.heap.size o (Sw.cutS c l k).1 ∧ Below w.heap.size w wr) (fun _ _ i _ => (l.length - intOf i).toNat)
  case atStart => exact ⟨0, Nat.zero_le _, rfl, rfl, World.ownsRow_lit w #[] 0 (Nat.le_refl _) (by unfold maxLen; omega) rfl, below1 _⟩
  case round =>
    obtain ⟨k, hk, rfl, rfl, hO, hb⟩ := hrel
    obtain ⟨hfk, hLk⟩ := Sw.cutS_le c l k
    by_cases hlt : k < l.length
    · have hdx : decide ((k : Int) < (l.length : Int)) = true := by rw [decide_eq_true_eq]; omega
      have hix := HIA.out k hlt k rfl
      by_cases hq : Sw.gb l k = c
      · have hCS := Lib.hid (Sw.cutS_yes hq)
        have hqd : ((Sw.gb l k : Int) == (c : Int)) = true := by rw [hq]; exact beq_self_eq_true _
        obtain ⟨L, hL⟩ : ∃ L, L = (Sw.cutS c l k).1 := ⟨_, rfl⟩
        obtain ⟨fr, hfr⟩ : ∃ fr, fr = (Sw.cutS c l k).2 := ⟨_, rfl⟩
        rw [← hL, ← hfr] at hCS
        rw [← hL] at hO hLk
        rw [← hfr] at hfk ⊢
        have hsl := HSA.out fr k hfk hk
        obtain ⟨p, hp⟩ : ∃ p, p = Sw.piece l fr k := ⟨_, rfl⟩
        rw [← hp] at hsl hCS
        obtain ⟨g, hg⟩ : ∃ g, g = Sw.gb l k := ⟨_, rfl⟩
        rw [← hg] at hix hqd
        have HO := Lib.hid hO
        have HB := Lib.hid hb
        clear hL hfr hp hg hO hb hq
        go_wp2_with (at_builtin; go_loud (refine wpList_append_own _ rfl _ _ 54 rfl w.heap.size 9 i0 (.string ByteArray.empty) 1 16 Tryd.underlying54 hi hz0 hz1 hz2 rfl (by decide) _ L.length (strs L) rfl (HO.out.alloc _) ⟨wr.heap.size, 0, none⟩ 1 1 [.string ⟨p.toArray⟩] rfl rfl (World.news_of_block (heap_alloc_new wr _)) (by intro u hu; simp at hu; subst hu; rfl) (by unfold maxLen; omega) (by omega) (by have := HB.out.size; simp; omega) ?_); intro v' w2 hown hgr _; obtain ⟨hO2, hb2⟩ := append_str HB.out (Nat.le_refl _) HO.out hown hgr)
        go_roundw
        case rel => exact ⟨k + 1, hlt, by go_num, by rw [hCS.out]; go_num, by rw [hCS.out]; exact hO2, hb2⟩
        case measure => simp [intOf]; omega
      · have hCS := Lib.hid (Sw.cutS_no hq)
        have hqd : ((Sw.gb l k : Int) == (c : Int)) = false := by rw [beq_eq_false_iff_ne]; omega
        obtain ⟨g, hg⟩ : ∃ g, g = Sw.gb l k := ⟨_, rfl⟩
        rw [← hg] at hix hqd
        have HO := Lib.hid hO
        have HB := Lib.hid hb
        clear hg hO hb hq hfk hLk
        go_wp2_with fail
        go_roundw
        case rel => exact ⟨k + 1, hlt, by go_num, by rw [hCS.out], by rw [hCS.out]; exact HO.out, HB.out⟩
        case measure => simp [intOf]; omega
    · have e : k = l.length := by omega
      subst e
      have hfk0 : (Sw.cutS c l l.length).2 ≤ l.length := (Sw.cutS_le c l l.length).1
      have hdx : decide ((l.length : Int) < (l.length : Int)) = false := by rw [decide_eq_false_iff_not]; omega
      have hsl := HSF.out _ hfk0
      have HCL : Hid (Sw.cutL c l = (Sw.cutS c l l.length).1 ++ [Sw.piece l (Sw.cutS c l l.length).2 l.length]) := rfl
      obtain ⟨L, hL⟩ : ∃ L, L = (Sw.cutS c l l.length).1 := ⟨_, rfl⟩
      obtain ⟨fr, hfr⟩ : ∃ fr, fr = (Sw.cutS c l l.length).2 := ⟨_, rfl⟩
      rw [← hL, ← hfr] at HCL
      rw [← hL] at hO hLk
      rw [← hfr] at hfk hsl ⊢
      obtain ⟨p, hp⟩ : ∃ p, p = Sw.piece l fr l.length := ⟨_, rfl⟩
      rw [← hp] at hsl HCL
      have HO := Lib.hid hO
      have HB := Lib.hid hb
      clear hL hfr hp hO hb
      go_wp2_with (at_builtin; go_loud (refine wpList_append_own _ rfl _ _ 54 rfl w.heap.size 9 i0 (.string ByteArray.empty) 1 16 Tryd.underlying54 hi hz0 hz1 hz2 rfl (by decide) _ L.length (strs L) rfl (HO.out.alloc _) ⟨wr.heap.size, 0, none⟩ 1 1 [.string ⟨p.toArray⟩] rfl rfl (World.news_of_block (heap_alloc_new wr _)) (by intro u hu; simp at hu; subst hu; rfl) (by unfold maxLen; omega) (by omega) (by have := HB.out.size; simp; omega) ?_); intro v' w2 hown hgr _; obtain ⟨hO2, hb2⟩ := append_str HB.out (Nat.le_refl _) HO.out hown hgr)
      go_ret
      exact ⟨_, rfl, by rw [HCL.out]; exact hO2, hb2⟩
end Go.Proofs.YtmghnfadgnolpaaDoor

