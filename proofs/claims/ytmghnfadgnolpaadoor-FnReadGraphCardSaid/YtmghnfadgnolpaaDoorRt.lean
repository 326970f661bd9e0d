/- The program's ReadGraph by its contract. Conditions: at most 2^62 bytes. -/
import Derived.Test.YtmghnfadgnolpaaDoorMath14
import Derived.Test.YtmghnfadgnolpaaDoorGt3
import Derived.Test.YtmghnfadgnolpaaDoorGrid
import Derived.Deep.QuietTactic
import Derived.BigQuiet
namespace Go.Proofs.YtmghnfadgnolpaaDoor
open Go.RowKit
def RdPost (w : World) (l : List UInt8) (e : Ending) (w' : World) : Prop := ∃ v, e = .returned (.tuple #[.agg #[v], .bool (Sw.vRdB l)]) ∧ OwnI w' w.heap.size w'.heap.size v (Sw.vRd l) ∧ Below w.heap.size w w'
theorem idx_at (l : List UInt8) (k : Nat) (hk : k < l.length) (x : Int) (hx : x = (k : Int)) (W : World) : (Instr.index 9 (.string ⟨l.toArray⟩) (.int .i64 x)).run Tryd.prog W = .ok (.int .u8 (Sw.gb l k : Nat)) W := by
  subst hx
  rw [run_index_string W 9 ⟨l.toArray⟩ .i64 (k : Int) Tryd.underlying9]
  have hs : (⟨l.toArray⟩ : ByteArray).size = l.length := sizeL l
  rw [dif_pos (by rw [hs]; omega)]
  have e : ((⟨l.toArray⟩ : ByteArray)[((k : Int)).toNat]'(by rw [hs]; omega)).toNat = Sw.gb l k := by
    unfold Sw.gb
    rw [List.getD_eq_getElem?_getD, List.getElem?_eq_getElem hk]
    rfl
  rw [e]
section
variable (l : List UInt8) (hl : l.length ≤ 4611686018427387904) (w : World)
include hl
theorem implRead_1 (h : l.length < 2) : Calls Tryd.prog 10 #[.string ⟨l.toArray⟩] w (RdPost w l) := by
  have HV := Lib.hid (Sw.vRd_no (Sw.no_head (.inl h)))
  have hsz := sizeL l
  have hd : decide ((l.length : Int) < 2) = true := by rw [decide_eq_true_eq]; omega
  obtain ⟨S, hS⟩ : ∃ S : ByteArray, S = ⟨l.toArray⟩ := ⟨_, rfl⟩
  rw [← hS] at hsz ⊢
  clear hS
  go_enter Tryd.func10, Tryd.ntmps10
  go_wp2_with fail
  exact bodyPost_ret (v := .tuple #[.agg #[.slice none 0 0], .bool false]) (by simp [results, Tryd.results10, go_sem]) rfl ⟨_, by rw [HV.out.1], by rw [HV.out.2]; exact OwnI.nil _, below1 _⟩
theorem implRead_2 (h2 : 2 ≤ l.length) (h : Sw.gb l 0 < 49) : Calls Tryd.prog 10 #[.string ⟨l.toArray⟩] w (RdPost w l) := by
  have HV := Lib.hid (Sw.vRd_no (Sw.no_head (.inr (.inl h))))
  have hsz := sizeL l
  have hd : decide ((l.length : Int) < 2) = false := by rw [decide_eq_false_iff_not]; omega
  have hi0 := idx_at l 0 (by omega) 0 rfl
  have hi1 := idx_at l 1 (by omega) 1 rfl
  obtain ⟨c0, hc⟩ : ∃ c, c = Sw.gb l 0 := ⟨_, rfl⟩
  obtain ⟨c1, hc1⟩ : ∃ c, c = Sw.gb l 1 := ⟨_, rfl⟩
  have hd2 : decide ((c0 : Int) < 49) = true := by rw [decide_eq_true_eq]; omega
  rw [← hc] at hi0
  rw [← hc1] at hi1
  obtain ⟨S, hS⟩ : ∃ S : ByteArray, S = ⟨l.toArray⟩ := ⟨_, rfl⟩
  rw [← hS] at hsz hi0 hi1 ⊢
  clear hS hc hc1
  go_enter Tryd.func10, Tryd.ntmps10
  go_wp2_with fail
  exact bodyPost_ret (v := .tuple #[.agg #[.slice none 0 0], .bool false]) (by simp [results, Tryd.results10, go_sem]) rfl ⟨_, by rw [HV.out.1], by rw [HV.out.2]; exact OwnI.nil _, below1 _⟩
theorem implRead_3 (h2 : 2 ≤ l.length) (h1 : 49 ≤ Sw.gb l 0) (h : 57 < Sw.gb l 0) : Calls Tryd.prog 10 #[.string ⟨l.toArray⟩] w (RdPost w l) := by
  have HV := Lib.hid (Sw.vRd_no (Sw.no_head (.inr (.inr (.inl h)))))
  have hsz := sizeL l
  have hd : decide ((l.length : Int) < 2) = false := by rw [decide_eq_false_iff_not]; omega
  have hi0 := idx_at l 0 (by omega) 0 rfl
  have hi1 := idx_at l 1 (by omega) 1 rfl
  obtain ⟨c0, hc⟩ : ∃ c, c = Sw.gb l 0 := ⟨_, rfl⟩
  obtain ⟨c1, hc1⟩ : ∃ c, c = Sw.gb l 1 := ⟨_, rfl⟩
  have hd2 : decide ((c0 : Int) < 49) = false := by rw [decide_eq_false_iff_not]; omega
  have hd3 : decide ((57 : Int) < (c0 : Int)) = true := by rw [decide_eq_true_eq]; omega
  rw [← hc] at hi0
  rw [← hc1] at hi1
  obtain ⟨S, hS⟩ : ∃ S : ByteArray, S = ⟨l.toArray⟩ := ⟨_, rfl⟩
  rw [← hS] at hsz hi0 hi1 ⊢
  clear hS hc hc1
  go_enter Tryd.func10, Tryd.ntmps10
  go_wp2_with fail
  exact bodyPost_ret (v := .tuple #[.agg #[.slice none 0 0], .bool false]) (by simp [results, Tryd.results10, go_sem]) rfl ⟨_, by rw [HV.out.1], by rw [HV.out.2]; exact OwnI.nil _, below1 _⟩
theorem implRead_4 (h2 : 2 ≤ l.length) (h1 : 49 ≤ Sw.gb l 0) (h3 : Sw.gb l 0 ≤ 57) (h : Sw.gb l 1 ≠ 58) : Calls Tryd.prog 10 #[.string ⟨l.toArray⟩] w (RdPost w l) := by
  have HV := Lib.hid (Sw.vRd_no (Sw.no_head (.inr (.inr (.inr h)))))
  have hsz := sizeL l
  have hd : decide ((l.length : Int) < 2) = false := by rw [decide_eq_false_iff_not]; omega
  have hi0 := idx_at l 0 (by omega) 0 rfl
  have hi1 := idx_at l 1 (by omega) 1 rfl
  obtain ⟨c0, hc⟩ : ∃ c, c = Sw.gb l 0 := ⟨_, rfl⟩
  obtain ⟨c1, hc1⟩ : ∃ c, c = Sw.gb l 1 := ⟨_, rfl⟩
  have hd2 : decide ((c0 : Int) < 49) = false := by rw [decide_eq_false_iff_not]; omega
  have hd3 : decide ((57 : Int) < (c0 : Int)) = false := by rw [decide_eq_false_iff_not]; omega
  have hd4 : ((c1 : Int) != 58) = true := by rw [bne_iff_ne]; omega
  rw [← hc] at hi0
  rw [← hc1] at hi1
  obtain ⟨S, hS⟩ : ∃ S : ByteArray, S = ⟨l.toArray⟩ := ⟨_, rfl⟩
  rw [← hS] at hsz hi0 hi1 ⊢
  clear hS hc hc1
  go_enter Tryd.func10, Tryd.ntmps10
  go_wp2_with fail
  exact bodyPost_ret (v := .tuple #[.agg #[.slice none 0 0], .bool false]) (by simp [results, Tryd.results10, go_sem]) rfl ⟨_, by rw [HV.out.1], by rw [HV.out.2]; exact OwnI.nil _, below1 _⟩
end
end Go.Proofs.YtmghnfadgnolpaaDoor

