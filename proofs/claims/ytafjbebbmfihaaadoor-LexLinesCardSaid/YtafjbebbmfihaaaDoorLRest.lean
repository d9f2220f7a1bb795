/- What stands in a text from a place on; functions that tell from some number of rounds on; no condition. -/
import Derived.Test.YtafjbebbmfihaaaDoorLDefs
namespace Go.Proofs.YtafjbebbmfihaaaDoor.P
open Go.RowKit Go.Proofs.YtafjbebbmfihaaaDoorW.PrintWords Go.Proofs.YtafjbebbmfihaaaDoorW.PrintLast Go.Proofs.YtafjbebbmfihaaaDoorW.PrintMore
set_option linter.unusedVariables false
set_option linter.unusedSimpArgs false
set_option linter.unusedSectionVars false
/-! ### from some number of rounds on -/
def Tot {α : Type} (f : Nat → Option α) (r : α) : Prop := ∃ K, ∀ k, K ≤ k → f k = some r
theorem Tot.step {α : Type} {f g : Nat → Option α} {r : α} (hg : Tot g r) (h : ∀ k, f (k + 1) = g k) : Tot f r := by
  obtain ⟨K, hK⟩ := hg
  refine ⟨K + 1, fun k hk => ?_⟩
  obtain ⟨j, rfl⟩ : ∃ j, k = j + 1 := ⟨k - 1, by omega⟩
  show f (j + 1) = some r
  rw [h]
  exact hK j (by omega)
theorem Tot.congr {α : Type} {f g : Nat → Option α} {r : α} (hg : Tot g r) (h : ∀ k, f k = g k) : Tot f r := by
  obtain ⟨K, hK⟩ := hg
  exact ⟨K, fun k hk => by rw [h]; exact hK k hk⟩
theorem Tot.pure {α : Type} (r : α) : Tot (fun _ => some r) r := ⟨0, fun _ _ => rfl⟩
theorem Tot.bind {α β : Type} {a : Nat → Option α} {b : Nat → α → Option β} {x : α} {r : β} (ha : Tot a x) (hb : Tot (fun k => b k x) r) : Tot (fun k => (a k).bind (b k)) r := by
  obtain ⟨K, hK⟩ := ha
  obtain ⟨L, hL⟩ := hb
  refine ⟨max K L, fun k hk => ?_⟩
  show (a k).bind (b k) = some r
  rw [hK k (by omega)]
  exact hL k (by omega)
theorem Tot.get {α : Type} {f : Nat → Option α} {r : α} (h : Tot f r) : ∃ k, f k = some r := ⟨h.choose, h.choose_spec _ (Nat.le_refl _)⟩
theorem Tot.uniq {α : Type} {f : Nat → Option α} {r q : α} (h : Tot f r) (h' : Tot f q) : r = q := by
  obtain ⟨K, hK⟩ := h
  obtain ⟨L, hL⟩ := h'
  have a := hK (max K L) (by omega)
  rw [hL (max K L) (by omega)] at a
  exact (Option.some.inj a).symm
theorem Tot.pos {α : Type} {c : Prop} [Decidable c] {f g : Nat → Option α} {r : α} (hc : c) (h : Tot f r) : Tot (fun k => if c then f k else g k) r := h.congr (fun k => if_pos hc)
theorem Tot.neg {α : Type} {c : Prop} [Decidable c] {f g : Nat → Option α} {r : α} (hc : ¬ c) (h : Tot g r) : Tot (fun k => if c then f k else g k) r := h.congr (fun k => if_neg hc)
theorem w64 {n : Int} (h0 : -9223372036854775808 ≤ n) (h1 : n ≤ 9223372036854775807) : wrap64 n = n := by unfold wrap64; omega

/-- What stands from a place on. -/
def rest_ (s : ByteArray) (i : Nat) : List UInt8 := s.data.toList.drop i
theorem rest_len (s : ByteArray) (i : Nat) : (rest_ s i).length = s.size - i := by
  unfold rest_
  rw [List.length_drop, Array.length_toList]
  rfl
theorem rest_drop (s : ByteArray) (i n : Nat) : (rest_ s i).drop n = rest_ s (i + n) := by
  unfold rest_
  rw [List.drop_drop]
theorem rest_cons (s : ByteArray) (i : Nat) (h : i < s.size) : ∃ c : UInt8, rest_ s i = c :: rest_ s (i + 1) ∧ bt s (i : Int) = (c.toNat : Int) := by
  refine ⟨s[i], ?_, ?_⟩
  · unfold rest_
    rw [List.drop_eq_getElem_cons (by simpa using h)]
    rfl
  · unfold bt
    rw [dif_pos (show ((i : Int)).toNat < s.size by simpa using h)]
    rfl
theorem byte_all {P : UInt8 → Prop} (h : ∀ n : Fin 256, P (UInt8.ofNat n.val)) (c : UInt8) : P c := by
  have := h ⟨c.toNat, c.toNat_lt⟩
  simpa using this
theorem extract_rest (s : ByteArray) (i : Nat) : (s.extract i s.size).data.toList = rest_ s i := by
  rw [← Lib.toList_data, Lib.extract_toList]
  unfold rest_
  rw [List.take_of_length_le (by simp)]
theorem rest_zero (s : ByteArray) : rest_ s 0 = s.data.toList := rfl
theorem rest_nil (s : ByteArray) (i : Nat) (h : s.size ≤ i) : rest_ s i = [] := List.eq_nil_of_length_eq_zero (by rw [rest_len]; omega)
theorem extract_list (s : ByteArray) (i j : Nat) : (s.extract i j).data.toList = (rest_ s i).take (j - i) := by
  rw [← Lib.toList_data, Lib.extract_toList]
  rfl
theorem bytes_ext {a b : ByteArray} (h : a.data.toList = b.data.toList) : a = b := by
  cases a with | mk a =>
  cases b with | mk b =>
  congr 1
  exact Array.toList_inj.1 h
theorem bytes_mk (a : ByteArray) : (⟨a.data.toList.toArray⟩ : ByteArray) = a := rfl
end Go.Proofs.YtafjbebbmfihaaaDoor.P
