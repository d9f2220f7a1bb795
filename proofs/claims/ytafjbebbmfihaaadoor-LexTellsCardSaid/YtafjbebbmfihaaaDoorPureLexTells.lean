/- LexTells: a text's tokens, a number and a word are the document's; no condition. -/
import Derived.Test.YtafjbebbmfihaaaDoorLNum
import Derived.Test.YtafjbebbmfihaaaDoorPx25
import Derived.Test.YtafjbebbmfihaaaDoorPx26
import Derived.Test.YtafjbebbmfihaaaDoorPx27
import Derived.Test.YtafjbebbmfihaaaDoorPx28
import Derived.Test.YtafjbebbmfihaaaDoorPx22
import Derived.Test.YtafjbebbmfihaaaDoorPx24
import Derived.Test.YtafjbebbmfihaaaDoorHLex
import Derived.Test.YtafjbebbmfihaaaDoorPx29
import Derived.Test.YtafjbebbmfihaaaDoorPxTells
section
namespace Go.Proofs.YtafjbebbmfihaaaDoor.P
open Go.RowKit Go.Proofs.YtafjbebbmfihaaaDoorW.PrintWords Go.Proofs.YtafjbebbmfihaaaDoorW.PrintLast Go.Proofs.YtafjbebbmfihaaaDoorW.PrintMore
set_option linter.unusedVariables false
set_option linter.unusedSimpArgs false
set_option linter.unusedSectionVars false
theorem rdigit_is (c : UInt8) : ferruleref02_digit.f (c.toNat : Int) = some (isDg c) := byte_all (P := fun c => ferruleref02_digit.f (c.toNat : Int) = some (isDg c)) (by decide +kernel) c
theorem rletter_is (c : UInt8) : ferruleref02_letter.f (c.toNat : Int) = some (isLt c) := byte_all (P := fun c => ferruleref02_letter.f (c.toNat : Int) = some (isLt c)) (by decide +kernel) c
theorem byte_eq (c : UInt8) (z : Int) (u : UInt8) (hu : (u.toNat : Int) = z) : (c.toNat : Int) = z ↔ c = u := by
  constructor
  · intro h
    apply UInt8.toNat_inj.1
    omega
  · rintro rfl
    exact hu
/-! ### blanks -/
section
variable (s : ByteArray) (hs : s.size ≤ 140737488351232)
include hs
theorem bl0_end (k i : Nat) (h : s.size ≤ i) : ferruleref02_blank.l0 (k + 1) s (i : Int) = some (i : Int) := by
  rw [ferruleref02_blank.l0, if_neg (by omega)]
theorem bl0_eq (k i : Nat) (c : UInt8) (h : i < s.size) (hb : bt s (i : Int) = (c.toNat : Int)) : ferruleref02_blank.l0 (k + 1) s (i : Int) = ferruleref02_blank.j1 k s (i : Int) (isBl c) := by
  rw [ferruleref02_blank.l0, if_pos (by omega), if_pos (by omega), hb]
  unfold isBl
  generalize ferruleref02_blank.j1 k s (i : Int) = F
  by_cases h1 : c = 32
  · subst h1; rfl
  rw [if_neg (fun e => h1 ((byte_eq c 32 32 rfl).1 e))]
  by_cases h2 : c = 9
  · subst h2; rfl
  rw [if_neg (fun e => h2 ((byte_eq c 9 9 rfl).1 e))]
  by_cases h3 : c = 10
  · subst h3; rfl
  rw [if_neg (fun e => h3 ((byte_eq c 10 10 rfl).1 e))]
  have e4 : (((c.toNat : Int)) == 13) = (c == 13) := by
    rw [Bool.eq_iff_iff, beq_iff_eq, beq_iff_eq]
    exact byte_eq c 13 13 rfl
  rw [e4, beq_eq_false_iff_ne.2 h1, beq_eq_false_iff_ne.2 h2, beq_eq_false_iff_ne.2 h3]
  simp
theorem bj1_true (k i : Nat) (h : i < s.size) : ferruleref02_blank.j1 (k + 1) s (i : Int) true = ferruleref02_blank.l0 k s ((i + 1 : Nat) : Int) := by
  rw [ferruleref02_blank.j1, if_pos rfl, w64 (by omega) (by omega)]
  rfl
theorem bj1_false (k i : Nat) (c : UInt8) (h : i < s.size) (hb : bt s (i : Int) = (c.toNat : Int)) : ferruleref02_blank.j1 (k + 1) s (i : Int) false = ferruleref02_blank.j2 k s (i : Int) (decide (c = 47 ∧ (rest_ s (i + 1)).head? = some 47)) := by
  have e1 : wrap64 ((i : Int) + 1) = ((i + 1 : Nat) : Int) := by rw [w64 (by omega) (by omega)]; rfl
  rw [ferruleref02_blank.j1, if_neg (by decide), e1]
  generalize ferruleref02_blank.j2 k s (i : Int) = F
  by_cases hi1 : i + 1 < s.size
  · obtain ⟨c1, hc1, hb1⟩ := rest_cons s (i + 1) hi1
    rw [if_pos (by omega), if_pos (by omega), if_pos (by omega), hb, hb1, hc1, List.head?_cons]
    by_cases h47 : c = 47
    · rw [if_pos ((byte_eq c 47 47 rfl).2 h47), if_pos (by omega)]
      congr 1
      rw [Bool.eq_iff_iff, beq_iff_eq, decide_eq_true_iff, Option.some.injEq]
      exact ⟨fun e => ⟨h47, (byte_eq c1 47 47 rfl).1 e⟩, fun e => (byte_eq c1 47 47 rfl).2 e.2⟩
    · rw [if_neg (fun e => h47 ((byte_eq c 47 47 rfl).1 e))]
      congr 1
      symm
      rw [decide_eq_false_iff_not]
      exact fun e => h47 e.1
  · rw [if_neg (by omega), rest_nil s (i + 1) (by omega)]
    congr 1
    simp
theorem bj2_true (k i : Nat) : ferruleref02_blank.j2 (k + 1) s (i : Int) true = ferruleref02_blank.l1 k s (i : Int) := by rw [ferruleref02_blank.j2, if_pos rfl]
theorem bj2_false (k i : Nat) : ferruleref02_blank.j2 (k + 1) s (i : Int) false = some (i : Int) := by rw [ferruleref02_blank.j2, if_neg (by decide)]
theorem bl1_end (k i : Nat) (h : s.size ≤ i) : ferruleref02_blank.l1 (k + 1) s (i : Int) = ferruleref02_blank.l0 k s (i : Int) := by
  rw [ferruleref02_blank.l1, if_neg (by omega)]
theorem bl1_ten (k i : Nat) (h : i < s.size) (hb : bt s (i : Int) = (((10 : UInt8).toNat : Nat) : Int)) : ferruleref02_blank.l1 (k + 1) s (i : Int) = ferruleref02_blank.l0 k s (i : Int) := by
  rw [ferruleref02_blank.l1, if_pos (by omega), if_pos (by omega), hb, if_pos (show (((10 : UInt8).toNat : Nat) : Int) = 10 from rfl)]
theorem bl1_on (k i : Nat) (c : UInt8) (h : i < s.size) (hb : bt s (i : Int) = (c.toNat : Int)) (hc : c ≠ 10) : ferruleref02_blank.l1 (k + 1) s (i : Int) = ferruleref02_blank.l1 k s ((i + 1 : Nat) : Int) := by
  rw [ferruleref02_blank.l1, if_pos (by omega), if_pos (by omega), hb, if_neg (fun e => hc ((byte_eq c 10 10 rfl).1 e)), w64 (by omega) (by omega)]
  rfl
theorem blank_both : ∀ (d i : Nat), d = s.size - i → i ≤ s.size → Tot (fun k => ferruleref02_blank.l0 k s (i : Int)) (i + skipG false (rest_ s i) : Nat) ∧ Tot (fun k => ferruleref02_blank.l1 k s (i : Int)) (i + skipG true (rest_ s i) : Nat)
  | 0, i, hd, hi => by
    have hn := rest_nil s i (by omega)
    have hA : Tot (fun k => ferruleref02_blank.l0 k s (i : Int)) (i : Int) := (Tot.pure (i : Int)).step (fun k => bl0_end s hs k i (by omega))
    rw [hn, skipG_nil, skipG_nil, Nat.add_zero]
    exact ⟨hA, hA.step (fun k => bl1_end s hs k i (by omega))⟩
  | d + 1, i, hd, hi => by
    have his : i < s.size := by omega
    obtain ⟨c, hc, hb⟩ := rest_cons s i his
    obtain ⟨ihA, ihB⟩ := blank_both d (i + 1) (by omega) (by omega)
    have hB1 : c ≠ 10 → Tot (fun k => ferruleref02_blank.l1 k s (i : Int)) (i + 1 + skipG true (rest_ s (i + 1)) : Nat) := fun h => ihB.step (fun k => bl1_on s hs k i c his hb h)
    have hA : Tot (fun k => ferruleref02_blank.l0 k s (i : Int)) (i + skipG false (rest_ s i) : Nat) := by
      rw [hc, skipG_f]
      cases hbl : isBl c with
      | true =>
        rw [if_pos rfl, show i + (skipG false (rest_ s (i + 1)) + 1) = i + 1 + skipG false (rest_ s (i + 1)) by omega]
        have h1 : Tot (fun k => ferruleref02_blank.j1 k s (i : Int) true) (i + 1 + skipG false (rest_ s (i + 1)) : Nat) := ihA.step (fun k => bj1_true s hs k i his)
        exact h1.step (fun k => by rw [bl0_eq s hs k i c his hb, hbl])
      | false =>
        rw [if_neg (by decide)]
        by_cases h2 : c = 47 ∧ (rest_ s (i + 1)).head? = some 47
        · rw [if_pos h2, show i + (skipG true (rest_ s (i + 1)) + 1) = i + 1 + skipG true (rest_ s (i + 1)) by omega]
          have h3 := hB1 (by rw [h2.1]; decide)
          have h4 : Tot (fun k => ferruleref02_blank.j2 k s (i : Int) true) (i + 1 + skipG true (rest_ s (i + 1)) : Nat) := h3.step (fun k => bj2_true s hs k i)
          have h5 : Tot (fun k => ferruleref02_blank.j1 k s (i : Int) false) (i + 1 + skipG true (rest_ s (i + 1)) : Nat) := h4.step (fun k => by rw [bj1_false s hs k i c his hb, decide_eq_true h2])
          exact h5.step (fun k => by rw [bl0_eq s hs k i c his hb, hbl])
        · rw [if_neg h2, Nat.add_zero]
          have h4 : Tot (fun k => ferruleref02_blank.j2 k s (i : Int) false) (i : Int) := (Tot.pure (i : Int)).step (fun k => bj2_false s hs k i)
          have h5 : Tot (fun k => ferruleref02_blank.j1 k s (i : Int) false) (i : Int) := h4.step (fun k => by rw [bj1_false s hs k i c his hb, decide_eq_false h2])
          exact h5.step (fun k => by rw [bl0_eq s hs k i c his hb, hbl])
    refine ⟨hA, ?_⟩
    by_cases h10 : c = 10
    · have ec : skipG true (rest_ s i) = skipG false (rest_ s i) := by
        rw [hc, h10, skipG_t, skipG_f, if_pos (by decide)]
        rfl
      rw [ec]
      rw [h10] at hb
      exact hA.step (fun k => bl1_ten s hs k i his hb)
    · have ec : skipG true (rest_ s i) = skipG true (rest_ s (i + 1)) + 1 := by
        rw [hc, skipG_t]
        have : (c != 10) = true := by simpa using h10
        rw [this]
      rw [ec, show i + (skipG true (rest_ s (i + 1)) + 1) = i + 1 + skipG true (rest_ s (i + 1)) by omega]
      exact hB1 h10
theorem blank_tot : Tot (fun k => ferruleref02_blank.f k s) (skipG false s.data.toList : Nat) := by
  have h := (blank_both s hs s.size 0 (by omega) (by omega)).1
  rw [Nat.zero_add] at h
  exact h
end
end Go.Proofs.YtafjbebbmfihaaaDoor.P
end

section
namespace Go.Proofs.YtafjbebbmfihaaaDoor.P
open Go.RowKit Go.Proofs.YtafjbebbmfihaaaDoorW.PrintWords Go.Proofs.YtafjbebbmfihaaaDoorW.PrintLast Go.Proofs.YtafjbebbmfihaaaDoorW.PrintMore
set_option linter.unusedVariables false
set_option linter.unusedSimpArgs false
set_option linter.unusedSectionVars false
theorem has_l0 (L : List ByteArray) (x : ByteArray) (hL : L.length < 1000000) : ∀ (d i : Nat), d = L.length - i → i ≤ L.length →
    Tot (fun k => ferruleref02_has.l0 k L x (i : Int)) ((L.drop i).any fun y => decide (y.data.toList = x.data.toList))
  | 0, i, hd, hi => by
    have e : L.drop i = [] := List.drop_eq_nil_of_le (by omega)
    rw [e]
    refine (Tot.pure _).step (fun k => ?_)
    rw [ferruleref02_has.l0, if_neg (by omega)]
    rfl
  | d + 1, i, hd, hi => by
    have hlt : i < L.length := by omega
    have e : L.drop i = L[i] :: L.drop (i + 1) := List.drop_eq_getElem_cons hlt
    have hr : rdOf ByteArray.empty L (i : Int) = L[i] := by
      unfold rdOf
      rw [Int.toNat_natCast, List.getD_eq_getElem?_getD, List.getElem?_eq_getElem hlt]
      rfl
    rw [e, List.any_cons]
    by_cases hx : L[i].data.toList = x.data.toList
    · rw [decide_eq_true hx, Bool.true_or]
      refine (Tot.pure _).step (fun k => ?_)
      rw [ferruleref02_has.l0, if_pos (by omega), if_pos (by omega), hr, Lib.toList_data, Lib.toList_data, if_pos hx]
    · rw [decide_eq_false hx, Bool.false_or]
      refine (has_l0 L x hL d (i + 1) (by omega) (by omega)).step (fun k => ?_)
      rw [ferruleref02_has.l0, if_pos (by omega), if_pos (by omega), hr, Lib.toList_data, Lib.toList_data, if_neg hx, w64 (by omega) (by omega)]
      rfl
/-- Membership of a text among texts that are told as lists. -/
theorem has_tot (S : List (List UInt8)) (x : ByteArray) (hS : S.length < 1000000) : Tot (fun k => ferruleref02_has.f k (S.map fun l => (⟨l.toArray⟩ : ByteArray)) x) (decide (x.data.toList ∈ S)) := by
  have h := has_l0 (S.map fun l => (⟨l.toArray⟩ : ByteArray)) x (by rw [List.length_map]; exact hS) (S.map fun l => (⟨l.toArray⟩ : ByteArray)).length 0 (by omega) (by omega)
  have e : ((S.map fun l => (⟨l.toArray⟩ : ByteArray)).drop 0).any (fun y => decide (y.data.toList = x.data.toList)) = decide (x.data.toList ∈ S) := by
    rw [Bool.eq_iff_iff, decide_eq_true_iff, List.drop_zero, List.any_eq_true]
    constructor
    · rintro ⟨y, hy, h⟩
      obtain ⟨l, hl, rfl⟩ := List.mem_map.1 hy
      rw [← of_decide_eq_true h]
      exact hl
    · intro h
      exact ⟨⟨x.data.toList.toArray⟩, List.mem_map.2 ⟨_, h, rfl⟩, decide_eq_true rfl⟩
  rw [e] at h
  exact h
theorem rword_tot (x : ByteArray) : Tot (fun k => ferruleref02_Word.f k x) (decide (x.data.toList ∈ wordsL)) := by
  have h := Tot.bind (b := fun k (t : Bool) => some t) (has_tot wordsL x (by decide)) (Tot.pure (decide (x.data.toList ∈ wordsL)))
  exact h
theorem rsign_j0 (s : ByteArray) (b : Bool) : Tot (fun k => ferruleref02_sign.j0 k s b) (if b = true then 2 else if ∃ c ∈ s.data.toList.head?, c ∈ signs1 then 1 else 0) := by
  cases b with
  | true =>
    refine (Tot.pure _).step (fun k => ?_)
    rw [ferruleref02_sign.j0, if_pos rfl, if_pos rfl]
  | false =>
    rw [if_neg (by decide)]
    by_cases h1 : s.size ≥ 1
    · have hx : (s.extract 0 1).data.toList = s.data.toList.take 1 := by rw [extract_list]; rfl
      obtain ⟨c, hc, _⟩ := rest_cons s 0 h1
      have hc2 : s.data.toList = c :: rest_ s 1 := hc
      have hm : (s.data.toList.take 1 ∈ signs1.map fun c => [c]) ↔ c ∈ signs1 := by
        rw [hc2]
        simp
      have he : (∃ c ∈ s.data.toList.head?, c ∈ signs1) ↔ c ∈ signs1 := by
        rw [hc2]
        simp
      have h := has_tot (signs1.map fun c => [c]) (s.extract 0 1) (by decide)
      rw [hx] at h
      have hb := Tot.bind (b := fun k (t : Bool) => if t = true then some (1 : Int) else some 0) h (r := if ∃ c ∈ s.data.toList.head?, c ∈ signs1 then 1 else 0) (by
        by_cases hcs : c ∈ signs1
        · rw [decide_eq_true (hm.2 hcs), if_pos (he.2 hcs)]
          exact Tot.pure _
        · rw [decide_eq_false (fun h => hcs (hm.1 h)), if_neg (fun h => hcs (he.1 h))]
          exact Tot.pure _)
      refine hb.step (fun k => ?_)
      rw [ferruleref02_sign.j0, if_neg (by decide), if_pos (by omega), if_pos (by omega), if_pos (by omega)]
      rfl
    · have hn : s.data.toList = [] := List.eq_nil_of_length_eq_zero (by rw [Array.length_toList]; show s.size = 0; omega)
      rw [hn, if_neg (by simp)]
      refine (Tot.pure _).step (fun k => ?_)
      rw [ferruleref02_sign.j0, if_neg (by decide), if_neg (by omega)]
theorem rsign_tot (s : ByteArray) : Tot (fun k => ferruleref02_sign.f k s) ((signL s.data.toList : Nat) : Int) := by
  have hsz : s.data.toList.length = s.size := Array.length_toList
  have hl : ((signL s.data.toList : Nat) : Int) = if (decide (s.data.toList.take 2 ∈ signs2)) = true then 2 else if ∃ c ∈ s.data.toList.head?, c ∈ signs1 then 1 else 0 := by
    unfold signL
    by_cases h : s.data.toList.take 2 ∈ signs2
    · rw [if_pos h, if_pos (decide_eq_true h)]; rfl
    · rw [if_neg h, if_neg (show ¬ decide (s.data.toList.take 2 ∈ signs2) = true from fun e => h (of_decide_eq_true e))]
      split <;> rfl
  by_cases h2 : s.size ≥ 2
  · have hx : (s.extract 0 2).data.toList = s.data.toList.take 2 := by rw [extract_list]; rfl
    have h := has_tot signs2 (s.extract 0 2) (by decide)
    rw [hx] at h
    have hb := Tot.bind (b := fun k (t : Bool) => ferruleref02_sign.j0 k s t) h (rsign_j0 s _)
    rw [← hl] at hb
    refine hb.congr (fun k => ?_)
    unfold ferruleref02_sign.f
    rw [if_pos (by omega), if_pos (by omega), if_pos (by omega)]
    rfl
  · have hf : decide (s.data.toList.take 2 ∈ signs2) = false := by
      rw [decide_eq_false_iff_not]
      intro h
      have h3 : ∀ x ∈ signs2, x.length = 2 := by decide
      have := h3 _ h
      simp at this
      omega
    rw [hl, hf]
    refine (rsign_j0 s false).congr (fun k => ?_)
    unfold ferruleref02_sign.f
    rw [if_neg (by omega)]
end Go.Proofs.YtafjbebbmfihaaaDoor.P
end

section
namespace Go.Proofs.YtafjbebbmfihaaaDoor.P
open Go.RowKit Go.Proofs.YtafjbebbmfihaaaDoorW.PrintWords Go.Proofs.YtafjbebbmfihaaaDoorW.PrintLast Go.Proofs.YtafjbebbmfihaaaDoorW.PrintMore
set_option linter.unusedVariables false
set_option linter.unusedSimpArgs false
set_option linter.unusedSectionVars false
/-- What stands behind the loop. -/
def nEnd (k : Nat) (s : ByteArray) (n v : Int) : Option (Int × ByteArray × Int) := if n < 1 then (some (0, (⟨#[]⟩ : ByteArray), 21)) else (if n > 10 then (some (0, (⟨#[]⟩ : ByteArray), 21)) else (if n > 1 then (if 0 < (s.size : Int) then (if (bt s 0) = 48 then (some (0, (⟨#[]⟩ : ByteArray), 21)) else (if v > 4294967295 then (some (0, (⟨#[]⟩ : ByteArray), 21)) else (if (s.extract (n : Int).toNat s.size).toList = ([] : List UInt8) then (some (v, s.extract (n : Int).toNat s.size, 0)) else ((ferruleref02_has.f k (([(⟨#[105, 56]⟩ : ByteArray), (⟨#[105, 49, 54]⟩ : ByteArray), (⟨#[105, 51, 50]⟩ : ByteArray), (⟨#[117, 56]⟩ : ByteArray), (⟨#[117, 49, 54]⟩ : ByteArray), (⟨#[117, 51, 50]⟩ : ByteArray)] : List ByteArray)) (s.extract (n : Int).toNat s.size)).bind fun t => (if t = true then (some (v, s.extract (n : Int).toNat s.size, 0)) else (some (0, (⟨#[]⟩ : ByteArray), 21))))))) else (none)) else (if v > 4294967295 then (some (0, (⟨#[]⟩ : ByteArray), 21)) else (if (s.extract (n : Int).toNat s.size).toList = ([] : List UInt8) then (some (v, s.extract (n : Int).toNat s.size, 0)) else ((ferruleref02_has.f k (([(⟨#[105, 56]⟩ : ByteArray), (⟨#[105, 49, 54]⟩ : ByteArray), (⟨#[105, 51, 50]⟩ : ByteArray), (⟨#[117, 56]⟩ : ByteArray), (⟨#[117, 49, 54]⟩ : ByteArray), (⟨#[117, 51, 50]⟩ : ByteArray)] : List ByteArray)) (s.extract (n : Int).toNat s.size)).bind fun t => (if t = true then (some (v, s.extract (n : Int).toNat s.size, 0)) else (some (0, (⟨#[]⟩ : ByteArray), 21))))))))
theorem bt_of (s : ByteArray) (i : Nat) (c : UInt8) (h : i < s.size) (hc : (rest_ s 0)[i]? = some c) : bt s (i : Int) = (c.toNat : Int) := by
  obtain ⟨c2, hc2, hb⟩ := rest_cons s i h
  have e : (rest_ s 0)[i]? = some c2 := by
    have h0 : (rest_ s 0).drop i = rest_ s i := by rw [rest_drop, Nat.zero_add]
    have : ((rest_ s 0).drop i)[0]? = some c2 := by rw [h0, hc2]; rfl
    simpa using this
  rw [hc] at e
  injection e with e
  rw [e]
  exact hb
theorem valL_take_lt (s : ByteArray) (D : Nat) (hdg : ∀ i, i < D → ∃ c : UInt8, (rest_ s 0)[i]? = some c ∧ isDg c = true) (i : Nat) (hi : i ≤ D) : valL ((rest_ s 0).take i) < 10 ^ i := by
  have h1 := valL_lt ((rest_ s 0).take i) (fun x hx => by
    obtain ⟨j, hj, e⟩ := List.mem_take_iff_getElem.1 hx
    obtain ⟨c3, hc3, hq3⟩ := hdg j (by omega)
    rw [List.getElem?_eq_getElem (by omega)] at hc3
    injection hc3 with hc3
    rw [← e, hc3]
    exact hq3)
  have h2 : ((rest_ s 0).take i).length ≤ i := List.length_take_le _ _
  exact Nat.lt_of_lt_of_le h1 (Nat.pow_le_pow_right (by decide) h2)
theorem nl0_end (k : Nat) (s : ByteArray) (i : Nat) (v : Int) (h : s.size = i) : ferruleref02_Number.l0 (k + 1) s (i : Int) v = nEnd k s (i : Int) v := by
  rw [ferruleref02_Number.l0, if_neg (by omega), if_pos (by omega), if_pos (by omega)]
  rfl
theorem nl0_stop (k : Nat) (s : ByteArray) (i : Nat) (v : Int) (c : UInt8) (h : i < s.size) (hb : bt s (i : Int) = (c.toNat : Int)) (hc : isDg c = false) : ferruleref02_Number.l0 (k + 1) s (i : Int) v = nEnd k s (i : Int) v := by
  rw [ferruleref02_Number.l0, if_pos (by omega), if_pos (by omega), hb, rdigit_is, hc, Option.bind_some, if_neg (by decide), if_pos (by omega)]
  rfl
theorem nl0_eleven (k : Nat) (s : ByteArray) (v : Int) (c : UInt8) (h : 11 < s.size) (hb : bt s (11 : Int) = (c.toNat : Int)) (hc : isDg c = true) : ferruleref02_Number.l0 (k + 1) s (11 : Int) v = nEnd k s (11 : Int) v := by
  rw [ferruleref02_Number.l0, if_pos (by omega), if_pos (by omega), hb, rdigit_is, hc, Option.bind_some, if_pos rfl, if_neg (by omega), if_pos (by omega)]
  rfl
theorem nl0_on (k : Nat) (s : ByteArray) (i : Nat) (v : Int) (c : UInt8) (h : i < s.size) (hi : i < 11) (hb : bt s (i : Int) = (c.toNat : Int)) (hc : isDg c = true) (hv : 0 ≤ v) (hv2 : v < 10 ^ 11) :
    ferruleref02_Number.l0 (k + 1) s (i : Int) v = ferruleref02_Number.l0 k s ((i + 1 : Nat) : Int) (v * 10 + ((c.toNat - 48 : Nat) : Int)) := by
  have hr := dg_range c hc
  have e1 : wrap64 ((i : Int) + 1) = ((i + 1 : Nat) : Int) := by rw [w64 (by omega) (by omega)]; rfl
  have e2 : wrap64 (wrap64 (v * 10) + (((c.toNat : Int) - 48) % 256)) = v * 10 + ((c.toNat - 48 : Nat) : Int) := by
    rw [w64 (n := v * 10) (by omega) (by omega), w64 (by omega) (by omega)]
    omega
  rw [ferruleref02_Number.l0, if_pos (by omega), if_pos (by omega), hb, rdigit_is, hc, Option.bind_some, if_pos rfl, if_pos (by omega), e1, e2]
/-- Where the loop ends: at the digits' end, or at eleven. -/
theorem rnum_l0 (s : ByteArray) (hs : s.size ≤ 140737488351232) (D : Nat) (r : Int × ByteArray × Int) (hD : D ≤ s.size) (hdg : ∀ i, i < D → ∃ c : UInt8, (rest_ s 0)[i]? = some c ∧ isDg c = true) (hst : D < s.size → ∃ c : UInt8, isDg c = false ∧ bt s (D : Int) = (c.toNat : Int))
    (hr : Tot (fun k => nEnd k s ((min D 11 : Nat) : Int) (valL ((rest_ s 0).take (min D 11)) : Int)) r) : ∀ (d i : Nat), d = min D 11 - i → i ≤ min D 11 → Tot (fun k => ferruleref02_Number.l0 k s (i : Int) (valL ((rest_ s 0).take i) : Int)) r
  | 0, i, hd, hi => by
    obtain rfl : i = min D 11 := by omega
    refine hr.step (fun k => ?_)
    by_cases h1 : s.size = min D 11
    · exact nl0_end k s _ _ h1
    · by_cases h2 : D ≤ 11
      · have e : min D 11 = D := by omega
        rw [e]
        obtain ⟨c, hc, hb⟩ := hst (by omega)
        exact nl0_stop k s D _ c (by omega) hb hc
      · have e : min D 11 = 11 := by omega
        rw [e]
        obtain ⟨c, hc, hq⟩ := hdg 11 (by omega)
        refine nl0_eleven k s _ c (by omega) ?_ hq
        exact bt_of s 11 c (by omega) hc
  | d + 1, i, hd, hi => by
    obtain ⟨c, hc, hq⟩ := hdg i (by omega)
    have htk : (rest_ s 0).take (i + 1) = (rest_ s 0).take i ++ [c] := by rw [List.take_add_one, hc]; rfl
    have hlt := valL_take_lt s D hdg i (by omega)
    have hpw : 10 ^ i ≤ 10 ^ 10 := Nat.pow_le_pow_right (by decide) (by omega)
    have ih := rnum_l0 s hs D r hD hdg hst hr d (i + 1) (by omega) (by omega)
    rw [htk, valL_snoc] at ih
    refine ih.step (fun k => ?_)
    rw [nl0_on k s i _ c (by omega) (by omega) (bt_of s i c (by omega) hc) hq (by omega) (by omega)]
    rfl
theorem nEnd_bad1 (k : Nat) (s : ByteArray) (n v : Int) (h : n < 1) : nEnd k s n v = some (0, ⟨#[]⟩, 21) := by unfold nEnd; rw [if_pos h]
theorem nEnd_bad2 (k : Nat) (s : ByteArray) (n v : Int) (h : 10 < n) : nEnd k s n v = some (0, ⟨#[]⟩, 21) := by unfold nEnd; rw [if_neg (by omega), if_pos (by omega)]
theorem nEnd_bad3 (k : Nat) (s : ByteArray) (n v : Int) (h : 1 < n) (h2 : n ≤ 10) (hs : 0 < s.size) (hz : bt s 0 = 48) : nEnd k s n v = some (0, ⟨#[]⟩, 21) := by
  unfold nEnd
  rw [if_neg (by omega), if_neg (by omega), if_pos (by omega), if_pos (by omega), if_pos hz]
def kindsB : List (List UInt8) := [[105, 56], [105, 49, 54], [105, 51, 50], [117, 56], [117, 49, 54], [117, 51, 50]]
/-- The tail: the number's size, the type's name. -/
def nTail (k : Nat) (x : ByteArray) (v : Int) : Option (Int × ByteArray × Int) :=
  if v > 4294967295 then some (0, ⟨#[]⟩, 21) else if x.toList = ([] : List UInt8) then some (v, x, 0) else (ferruleref02_has.f k (kindsB.map fun l => (⟨l.toArray⟩ : ByteArray)) x).bind fun t => if t = true then some (v, x, 0) else some (0, ⟨#[]⟩, 21)
theorem nEnd_tail (k : Nat) (s : ByteArray) (n : Nat) (v : Int) (h : 1 ≤ n) (h2 : n ≤ 10) (h3 : 1 < n → 0 < s.size ∧ bt s 0 ≠ 48) : nEnd k s (n : Int) v = nTail k (s.extract n s.size) v := by
  unfold nEnd
  rw [if_neg (by omega), if_neg (by omega)]
  by_cases h1 : 1 < n
  · rw [if_pos (by omega), if_pos (by have := (h3 h1).1; omega), if_neg (h3 h1).2]
    rfl
  · rw [if_neg (by omega)]
    rfl
theorem nTail_tot (x : ByteArray) (v : Int) : Tot (fun k => nTail k x v) (if decide (x.data.toList ∈ kindsL) && decide (v ≤ 4294967295) then (v, x, 0) else (0, ⟨#[]⟩, 21)) := by
  by_cases hv : v ≤ 4294967295
  · rw [decide_eq_true hv, Bool.and_true]
    by_cases h0 : x.data.toList = []
    · have hk : x.data.toList ∈ kindsL := by rw [h0]; decide
      rw [decide_eq_true hk, if_pos rfl]
      refine (Tot.pure _).congr (fun k => ?_)
      unfold nTail
      rw [if_neg (by omega), Lib.toList_data, if_pos h0]
    · have hk : decide (x.data.toList ∈ kindsL) = decide (x.data.toList ∈ kindsB) := by
        rw [Bool.eq_iff_iff, decide_eq_true_iff, decide_eq_true_iff]
        unfold kindsL kindsB
        simp [h0]
      rw [hk]
      have hb := Tot.bind (b := fun k (t : Bool) => if t = true then some (v, x, (0 : Int)) else some (0, ⟨#[]⟩, 21)) (has_tot kindsB x (by decide)) (r := if decide (x.data.toList ∈ kindsB) then (v, x, 0) else (0, ⟨#[]⟩, 21)) (by
        by_cases h : x.data.toList ∈ kindsB
        · rw [decide_eq_true h]; exact Tot.pure _
        · rw [decide_eq_false h]; exact Tot.pure _)
      refine hb.congr (fun k => ?_)
      unfold nTail
      rw [if_neg (by omega), Lib.toList_data, if_neg h0]
  · rw [decide_eq_false hv, Bool.and_false]
    refine (Tot.pure _).congr (fun k => ?_)
    unfold nTail
    rw [if_pos (by omega)]
    rfl
theorem rnum_tot (s : ByteArray) (hs : s.size ≤ 140737488351232) : Tot (fun k => ferruleref02_Number.f k s) (numP s.data.toList) := by
  have hDl := takeWhile_length_le isDg s.data.toList
  rw [show s.data.toList.length = s.size from Array.length_toList] at hDl
  have hdrop := dropWhile_drop isDg s.data.toList
  have htake := takeWhile_take isDg s.data.toList
  obtain ⟨D, hD⟩ : ∃ D, D = (s.data.toList.takeWhile isDg).length := ⟨_, rfl⟩
  rw [← hD] at hDl hdrop htake
  have hdrop2 : s.data.toList.dropWhile isDg = rest_ s D := hdrop
  have htake2 : s.data.toList.takeWhile isDg = (rest_ s 0).take D := htake
  have hdg : ∀ i, i < D → ∃ c : UInt8, (rest_ s 0)[i]? = some c ∧ isDg c = true := by
    intro i hi
    have hl : i < (s.data.toList.takeWhile isDg).length := by omega
    refine ⟨(s.data.toList.takeWhile isDg)[i], ?_, ?_⟩
    · have h1 : ((rest_ s 0).take D)[i]? = some ((s.data.toList.takeWhile isDg)[i]) := by rw [← htake2]; exact List.getElem?_eq_getElem hl
      rw [List.getElem?_take, if_pos hi] at h1
      exact h1
    · exact mem_takeWhile isDg _ (List.getElem_mem hl)
  have hst : D < s.size → ∃ c : UInt8, isDg c = false ∧ bt s (D : Int) = (c.toNat : Int) := by
    intro h
    have hw : ((rest_ s D).takeWhile isDg).length = D - D := by
      rw [← hdrop2]
      have : (s.data.toList.dropWhile isDg).takeWhile isDg = [] := by
        cases hd : s.data.toList.dropWhile isDg with
        | nil => rfl
        | cons c t =>
          have hc := List.head_dropWhile_not (p := isDg) (l := s.data.toList) (by rw [hd]; simp)
          simp only [hd, List.head_cons] at hc
          rw [List.takeWhile_cons_of_neg (by simpa using hc)]
      rw [this]
      simp
    exact (dig_step s D D hw (Nat.le_refl _)).2 rfl h
  have hX : s.extract D s.size = ⟨(rest_ s D).toArray⟩ := bytes_ext (extract_rest s D)
  have hno : numOk s.data.toList = (decide (0 < D) && decide (D ≤ 10) && !(decide (1 < D) && decide (s.data.toList.head? = some 48)) && decide (rest_ s D ∈ kindsL) && decide (valL ((rest_ s 0).take D) ≤ 4294967295)) := by
    unfold numOk
    rw [← hD, hdrop2, htake2]
  have hnp : numP s.data.toList = if numOk s.data.toList then ((valL ((rest_ s 0).take D) : Int), s.extract D s.size, 0) else (0, ⟨#[]⟩, 21) := by
    unfold numP
    rw [hdrop2, htake2, hX]
  have h0 := rnum_l0 s hs D (numP s.data.toList) hDl hdg hst
  suffices hr : Tot (fun k => nEnd k s ((min D 11 : Nat) : Int) (valL ((rest_ s 0).take (min D 11)) : Int)) (numP s.data.toList) from (h0 hr (min D 11) 0 (by omega) (by omega)).congr (fun k => rfl)
  by_cases hz : D = 0
  · have e : numP s.data.toList = (0, ⟨#[]⟩, 21) := by rw [hnp, hno, decide_eq_false (show ¬ 0 < D by omega)]; rfl
    rw [e]
    exact (Tot.pure _).congr (fun k => nEnd_bad1 k s _ _ (by omega))
  by_cases h10 : D > 10
  · have e : numP s.data.toList = (0, ⟨#[]⟩, 21) := by rw [hnp, hno, decide_eq_false (show ¬ D ≤ 10 by omega), Bool.and_false]; rfl
    rw [e]
    exact (Tot.pure _).congr (fun k => nEnd_bad2 k s _ _ (by omega))
  have h10 : D ≤ 10 := by omega
  have hm : min D 11 = D := by omega
  rw [hm]
  have hv : decide (((valL ((rest_ s 0).take D) : Nat) : Int) ≤ 4294967295) = decide (valL ((rest_ s 0).take D) ≤ 4294967295) := by
    rw [Bool.eq_iff_iff, decide_eq_true_iff, decide_eq_true_iff]
    omega
  have ht := nTail_tot (s.extract D s.size) (valL ((rest_ s 0).take D) : Int)
  rw [extract_rest, hv] at ht
  by_cases h1 : D > 1
  · obtain ⟨c, hc, hb⟩ := rest_cons s 0 (by omega)
    have hh : decide (s.data.toList.head? = some 48) = (bt s 0 == 48) := by
      have e0 : s.data.toList = c :: rest_ s 1 := hc
      have hb0 : bt s 0 = (c.toNat : Int) := hb
      rw [e0, hb0, Bool.eq_iff_iff, decide_eq_true_iff, beq_iff_eq, List.head?_cons, Option.some.injEq]
      constructor
      · rintro rfl; rfl
      · intro h; exact (byte_eq c 48 48 rfl).1 h
    cases hz : (bt s 0 == 48) with
    | true =>
      have e : numP s.data.toList = (0, ⟨#[]⟩, 21) := by rw [hnp, hno, hh, hz, decide_eq_true h1]; simp
      rw [e]
      exact (Tot.pure _).congr (fun k => nEnd_bad3 k s _ _ (by omega) (by omega) (by omega) (beq_iff_eq.1 hz))
    | false =>
      have e : numP s.data.toList = (if decide (rest_ s D ∈ kindsL) && decide (valL ((rest_ s 0).take D) ≤ 4294967295) then ((valL ((rest_ s 0).take D) : Int), s.extract D s.size, 0) else (0, ⟨#[]⟩, 21)) := by
        rw [hnp, hno, hh, hz, decide_eq_true (show 0 < D by omega), decide_eq_true h10, Bool.and_false]
        rfl
      rw [e]
      exact ht.congr (fun k => nEnd_tail k s D _ (by omega) h10 (fun _ => ⟨by omega, beq_eq_false_iff_ne.1 hz⟩))
  · have e : numP s.data.toList = (if decide (rest_ s D ∈ kindsL) && decide (valL ((rest_ s 0).take D) ≤ 4294967295) then ((valL ((rest_ s 0).take D) : Int), s.extract D s.size, 0) else (0, ⟨#[]⟩, 21)) := by
      rw [hnp, hno, decide_eq_false h1, decide_eq_true (show 0 < D by omega), decide_eq_true h10, Bool.false_and]
      rfl
    rw [e]
    exact ht.congr (fun k => nEnd_tail k s D _ (by omega) h10 (fun h => absurd h h1))
end Go.Proofs.YtafjbebbmfihaaaDoor.P
end

section
namespace Go.Proofs.YtafjbebbmfihaaaDoor.P
open Go.RowKit Go.Proofs.YtafjbebbmfihaaaDoorW.PrintWords Go.Proofs.YtafjbebbmfihaaaDoorW.PrintLast Go.Proofs.YtafjbebbmfihaaaDoorW.PrintMore
set_option linter.unusedVariables false
set_option linter.unusedSimpArgs false
set_option linter.unusedSectionVars false
abbrev Toks : Type := (List S39) × Int × Int
/-- What stands behind a token. -/
def contF (k : Nat) (s : ByteArray) (acc : List S39) (kind p q : Int) : Option Toks :=
  if acc.length < 4398046511104 then (if 0 ≤ q then ((ferruleref02_blank.f k (s.extract q.toNat s.size)).bind fun t => ferruleref02_Lex.l0 k s (acc ++ [(⟨kind, s.extract p.toNat q.toNat, p⟩ : S39)]) (wrap64 (q + t))) else none) else none
theorem cont_tot (s : ByteArray) (hs : s.size ≤ 65536) (acc : List S39) (kind : Int) (p q : Nat) (hq : q ≤ s.size) (ha : acc.length ≤ 65536) (R : Toks)
    (ih : Tot (fun k => ferruleref02_Lex.l0 k s (acc ++ [(⟨kind, s.extract p q, (p : Int)⟩ : S39)]) (skipTo s q : Int)) R) : Tot (fun k => contF k s acc kind (p : Int) (q : Int)) R := by
  have hb := blank_tot (s.extract q s.size) (by rw [ByteArray.size_extract]; omega)
  rw [extract_rest] at hb
  have hle := skipTo_le s q hq
  have e : wrap64 ((q : Int) + ((skipG false (rest_ s q) : Nat) : Int)) = (skipTo s q : Int) := by
    unfold skipTo at hle ⊢
    rw [w64 (by omega) (by omega)]
    omega
  have h := Tot.bind (b := fun k (t : Int) => ferruleref02_Lex.l0 k s (acc ++ [(⟨kind, s.extract p q, (p : Int)⟩ : S39)]) (wrap64 ((q : Int) + t))) hb (by rw [e]; exact ih)
  refine h.congr (fun k => ?_)
  unfold contF
  rw [if_pos (by omega), if_pos (by omega), Int.toNat_natCast, Int.toNat_natCast]
theorem rl0_end (k : Nat) (s : ByteArray) (acc : List S39) (p : Nat) (h : s.size ≤ p) : ferruleref02_Lex.l0 (k + 1) s acc (p : Int) = some (acc, 0, 0) := by
  rw [ferruleref02_Lex.l0, if_neg (by omega)]
theorem rl0_eq (k : Nat) (s : ByteArray) (acc : List S39) (p : Nat) (c : UInt8) (h : p < s.size) (hb : bt s (p : Int) = (c.toNat : Int)) : ferruleref02_Lex.l0 (k + 1) s acc (p : Int) = ferruleref02_Lex.j1 k s acc (p : Int) 0 4 (isPt c) := by
  rw [ferruleref02_Lex.l0, if_pos (by omega), if_pos (by omega), hb, rletter_is, rdigit_is, Option.bind_some]
  unfold isPt
  cases isLt c with
  | true => rw [if_pos rfl]; rfl
  | false => rw [if_neg (by decide), Option.bind_some]; rfl
theorem rj1_true (k : Nat) (s : ByteArray) (acc : List S39) (p : Nat) : ferruleref02_Lex.j1 (k + 1) s acc (p : Int) 0 4 true = ferruleref02_Lex.l1 k s acc (p : Int) 0 := by
  rw [ferruleref02_Lex.j1, if_pos rfl]
theorem rj1_none (k : Nat) (s : ByteArray) (acc : List S39) (p : Nat) (h : p < s.size) : ferruleref02_Lex.j1 (k + 1) s acc (p : Int) 0 4 false = (ferruleref02_sign.f k (s.extract p s.size)).bind fun t => if t = 0 then some (([] : List S39), (p : Int), 20) else (if (p : Int) ≤ wrap64 ((p : Int) + t) then (if wrap64 ((p : Int) + t) ≤ (s.size : Int) then contF k s acc 4 (p : Int) (wrap64 ((p : Int) + t)) else none) else none) := by
  rw [ferruleref02_Lex.j1, if_neg (by decide), if_pos (by omega), if_pos (by omega), Int.toNat_natCast]
  rfl
theorem rl1_end (k : Nat) (s : ByteArray) (hs : s.size ≤ 65536) (acc : List S39) (p n : Nat) (h : p + n = s.size) : ferruleref02_Lex.l1 (k + 1) s acc (p : Int) (n : Int) = ferruleref02_Lex.j3 k s acc (p : Int) (n : Int) := by
  rw [ferruleref02_Lex.l1, w64 (by omega) (by omega), if_neg (by omega)]
theorem rl1_eq (k : Nat) (s : ByteArray) (hs : s.size ≤ 65536) (acc : List S39) (p n : Nat) (c : UInt8) (h : p + n < s.size) (hb : bt s ((p + n : Nat) : Int) = (c.toNat : Int)) :
    ferruleref02_Lex.l1 (k + 1) s acc (p : Int) (n : Int) = if isPt c = true then ferruleref02_Lex.l1 k s acc (p : Int) ((n + 1 : Nat) : Int) else ferruleref02_Lex.j3 k s acc (p : Int) (n : Int) := by
  have e : (p : Int) + (n : Int) = ((p + n : Nat) : Int) := by omega
  have e1 : wrap64 ((n : Int) + 1) = ((n + 1 : Nat) : Int) := by rw [w64 (by omega) (by omega)]; rfl
  rw [ferruleref02_Lex.l1, w64 (n := (p : Int) + (n : Int)) (by omega) (by omega), e, if_pos (by omega), if_pos (by omega), hb, rletter_is, rdigit_is, Option.bind_some, e1]
  unfold isPt
  cases isLt c with
  | true => rw [if_pos rfl]; rfl
  | false =>
    rw [if_neg (by decide), Option.bind_some]
    rfl
theorem rj3_eq (k : Nat) (s : ByteArray) (hs : s.size ≤ 65536) (acc : List S39) (p n : Nat) (c : UInt8) (h : p < s.size) (hn : p + n ≤ s.size) (hb : bt s (p : Int) = (c.toNat : Int)) :
    ferruleref02_Lex.j3 (k + 1) s acc (p : Int) (n : Int) = if isDg c = true then ((ferruleref02_Number.f k (s.extract p (p + n))).bind fun b => if b.2.2 = 0 then contF k s acc 2 (p : Int) ((p + n : Nat) : Int) else some (([] : List S39), (p : Int), b.2.2))
      else (if (n : Int) > 40 then some (([] : List S39), (p : Int), 20) else ((ferruleref02_Word.f k (s.extract p (p + n))).bind fun t => if t = true then contF k s acc 3 (p : Int) ((p + n : Nat) : Int) else contF k s acc 1 (p : Int) ((p + n : Nat) : Int))) := by
  have e : wrap64 ((p : Int) + (n : Int)) = ((p + n : Nat) : Int) := by rw [w64 (by omega) (by omega)]; omega
  rw [ferruleref02_Lex.j3, e, if_pos (by omega), if_pos (by omega), if_pos (by omega), if_pos (by omega), hb, rdigit_is, Option.bind_some, Int.toNat_natCast, Int.toNat_natCast]
  rfl
theorem rl1_tot (s : ByteArray) (hs : s.size ≤ 65536) (acc : List S39) (p N : Nat) (hp : p ≤ s.size) (R : Toks) (hN : N = ((rest_ s p).takeWhile isPt).length) (h3 : Tot (fun k => ferruleref02_Lex.j3 k s acc (p : Int) (N : Int)) R) :
    ∀ (d n : Nat), d = N - n → n ≤ N → ((rest_ s (p + n)).takeWhile isPt).length = N - n → Tot (fun k => ferruleref02_Lex.l1 k s acc (p : Int) (n : Int)) R
  | 0, n, hd, hn, hw => by
    obtain rfl : n = N := by omega
    have hle := takeWhile_length_le isPt (rest_ s p)
    rw [← hN, rest_len] at hle
    refine h3.step (fun k => ?_)
    by_cases hlt : p + n < s.size
    · obtain ⟨c, hc, hb⟩ := rest_cons s (p + n) hlt
      rw [hc] at hw
      cases hq : isPt c with
      | true => rw [List.takeWhile_cons_of_pos hq, List.length_cons] at hw; omega
      | false => rw [rl1_eq k s hs acc p n c hlt hb, hq, if_neg (by decide)]
    · exact rl1_end k s hs acc p n (by omega)
  | d + 1, n, hd, hn, hw => by
    have hl := takeWhile_length_le isPt (rest_ s (p + n))
    rw [hw, rest_len] at hl
    have hlt : p + n < s.size := by omega
    obtain ⟨c, hc, hb⟩ := rest_cons s (p + n) hlt
    rw [hc] at hw
    cases hq : isPt c with
    | true =>
      rw [List.takeWhile_cons_of_pos hq, List.length_cons] at hw
      refine (rl1_tot s hs acc p N hp R hN h3 d (n + 1) (by omega) (by omega) (by rw [← Nat.add_assoc]; omega)).step (fun k => ?_)
      rw [rl1_eq k s hs acc p n c hlt hb, hq, if_pos rfl]
    | false => rw [List.takeWhile_cons_of_neg (by simp [hq])] at hw; simp at hw; omega
theorem rj1_tot (s : ByteArray) (hs : s.size ≤ 65536) (acc : List S39) (p : Nat) (R : Toks) (h : p < s.size) (g : Nat) (hg : p + g ≤ s.size) (hsg : Tot (fun k => ferruleref02_sign.f k (s.extract p s.size)) (g : Int))
    (hz : g = 0 → R = ([], (p : Int), 20)) (hnz : g ≠ 0 → Tot (fun k => contF k s acc 4 (p : Int) ((p + g : Nat) : Int)) R) : Tot (fun k => ferruleref02_Lex.j1 k s acc (p : Int) 0 4 false) R := by
  obtain ⟨K, hK⟩ := hsg
  by_cases h0 : g = 0
  · refine ⟨K + 1, fun k hk => ?_⟩
    obtain ⟨j, rfl⟩ : ∃ j, k = j + 1 := ⟨k - 1, by omega⟩
    have e : ferruleref02_sign.f j (s.extract p s.size) = some (g : Int) := hK j (by omega)
    have h1 : (g : Int) = 0 := by omega
    show ferruleref02_Lex.j1 (j + 1) s acc (p : Int) 0 4 false = _
    rw [rj1_none j s acc p h, e, Option.bind_some, if_pos h1, hz h0]
  · obtain ⟨K2, hK2⟩ := hnz h0
    refine ⟨K + K2 + 1, fun k hk => ?_⟩
    obtain ⟨j, rfl⟩ : ∃ j, k = j + 1 := ⟨k - 1, by omega⟩
    have e : ferruleref02_sign.f j (s.extract p s.size) = some (g : Int) := hK j (by omega)
    have e2 : contF j s acc 4 (p : Int) ((p + g : Nat) : Int) = some R := hK2 j (by omega)
    have h1 : ¬ (g : Int) = 0 := by omega
    have e3 : wrap64 ((p : Int) + (g : Int)) = ((p + g : Nat) : Int) := by rw [w64 (by omega) (by omega)]; omega
    have h2 : (p : Int) ≤ ((p + g : Nat) : Int) := by omega
    have h3 : ((p + g : Nat) : Int) ≤ (s.size : Int) := by omega
    show ferruleref02_Lex.j1 (j + 1) s acc (p : Int) 0 4 false = _
    rw [rj1_none j s acc p h, e, Option.bind_some, if_neg h1, e3, if_pos h2, if_pos h3, e2]
theorem rlex_l0 (s : ByteArray) (hs : s.size ≤ 65536) : ∀ (d p : Nat) (acc : List S39), s.size - p < d → p ≤ s.size → skipG false (rest_ s p) = 0 → acc.length ≤ p →
    Tot (fun k => ferruleref02_Lex.l0 k s acc (p : Int)) (lexR (preE acc (lexA (rest_ s p) p)))
  | 0, p, acc, hd, _, _, _ => by omega
  | d + 1, p, acc, hd, hp, hsk, ha => by
    by_cases hlt : p < s.size
    · obtain ⟨c, hc, hb⟩ := rest_cons s p hlt
      have hwl := takeWhile_length_le isPt (rest_ s p)
      rw [rest_len] at hwl
      -- what stands behind a token of length n
      have hnext : ∀ (kind : Int) (n : Nat), tokL (rest_ s p) = .ok (kind, n) → Tot (fun k => contF k s acc kind (p : Int) ((p + n : Nat) : Int)) (lexR (preE acc (lexA (rest_ s p) p))) := by
        intro kind n ht
        have hn := tokL_len ht
        rw [rest_len] at hn
        rw [step_ok acc hlt hsk ht]
        refine cont_tot s hs acc kind p (p + n) (by omega) (by omega) _ ?_
        have h1 := skipTo_ge s (p + n)
        exact rlex_l0 s hs d (skipTo s (p + n)) (acc ++ [_]) (by omega) (skipTo_le s _ (by omega)) (skipTo_idem s _) (by rw [List.length_append, List.length_singleton]; omega)
      have herr : ∀ (er : Int), tokL (rest_ s p) = .error er → lexR (preE acc (lexA (rest_ s p) p)) = ([], (p : Int), er) := by
        intro er ht
        rw [step_err acc hlt hsk ht]
        rfl
      have hh : (rest_ s p).head?.any isDg = isDg c := by rw [hc]; rfl
      by_cases h0 : ((rest_ s p).takeWhile isPt).length = 0
      · have hq : isPt c = false := by
          cases hq : isPt c with
          | true => rw [hc, List.takeWhile_cons_of_pos hq, List.length_cons] at h0; omega
          | false => rfl
        have htk : tokL (rest_ s p) = if signL (rest_ s p) = 0 then .error 20 else .ok (4, signL (rest_ s p)) := by unfold tokL; rw [if_pos h0]
        have hsg := rsign_tot (s.extract p s.size)
        rw [extract_rest] at hsg
        have hsl := signL_le (rest_ s p)
        rw [rest_len] at hsl
        have hj : Tot (fun k => ferruleref02_Lex.j1 k s acc (p : Int) 0 4 false) (lexR (preE acc (lexA (rest_ s p) p))) := by
          refine rj1_tot s hs acc p _ hlt _ (by omega) hsg (fun hz => ?_) (fun hz => ?_)
          · rw [if_pos hz] at htk
            exact herr _ htk
          · rw [if_neg hz] at htk
            exact hnext _ _ htk
        exact hj.step (fun k => by rw [rl0_eq k s acc p c hlt hb, hq])
      · have hq : isPt c = true := by
          cases hq : isPt c with
          | true => rfl
          | false => rw [hc, List.takeWhile_cons_of_neg (by simp [hq])] at h0; exact absurd rfl h0
        obtain ⟨n, hn⟩ : ∃ n, n = ((rest_ s p).takeWhile isPt).length := ⟨_, rfl⟩
        have hx : (s.extract p (p + n)).data.toList = (rest_ s p).takeWhile isPt := by
          rw [extract_list, Nat.add_sub_cancel_left, hn, ← takeWhile_take]
        have htk : tokL (rest_ s p) = if isDg c then (if numOk ((rest_ s p).takeWhile isPt) then .ok (2, n) else .error 21) else if 40 < n then .error 20 else if (rest_ s p).takeWhile isPt ∈ wordsL then .ok (3, n) else .ok (1, n) := by
          unfold tokL
          rw [if_neg h0, hh, ← hn]
        have hj3 : Tot (fun k => ferruleref02_Lex.j3 k s acc (p : Int) (n : Int)) (lexR (preE acc (lexA (rest_ s p) p))) := by
          cases hdg : isDg c with
          | true =>
            rw [hdg, if_pos rfl] at htk
            have hnm := rnum_tot (s.extract p (p + n)) (by rw [ByteArray.size_extract]; omega)
            rw [hx] at hnm
            refine Tot.step (Tot.bind (b := fun k (b : Int × ByteArray × Int) => if b.2.2 = 0 then contF k s acc 2 (p : Int) ((p + n : Nat) : Int) else some (([] : List S39), (p : Int), b.2.2)) hnm ?_) (fun k => by rw [rj3_eq k s hs acc p n c hlt (by omega) hb, hdg, if_pos rfl])
            cases hno : numOk ((rest_ s p).takeWhile isPt) with
            | true =>
              rw [hno, if_pos rfl] at htk
              obtain ⟨v, t, hv⟩ := (numP_err _).1 hno
              rw [hv]
              exact (hnext _ _ htk).congr (fun k => by (try dsimp only); rw [if_pos rfl])
            | false =>
              rw [hno, if_neg (by decide)] at htk
              rw [(numP_err _).2 hno, herr _ htk]
              exact (Tot.pure _).congr (fun k => by (try dsimp only); rw [if_neg (by decide)])
          | false =>
            rw [hdg, if_neg (by decide)] at htk
            by_cases hl : 40 < n
            · rw [if_pos hl] at htk
              rw [herr _ htk]
              exact (Tot.pure _).step (fun k => by rw [rj3_eq k s hs acc p n c hlt (by omega) hb, hdg, if_neg (by decide), if_pos (by omega)])
            · rw [if_neg hl] at htk
              have hwd := rword_tot (s.extract p (p + n))
              rw [hx] at hwd
              refine Tot.step (Tot.bind (b := fun k (t : Bool) => if t = true then contF k s acc 3 (p : Int) ((p + n : Nat) : Int) else contF k s acc 1 (p : Int) ((p + n : Nat) : Int)) hwd ?_) (fun k => by rw [rj3_eq k s hs acc p n c hlt (by omega) hb, hdg, if_neg (by decide), if_neg (by omega)])
              by_cases hw : (rest_ s p).takeWhile isPt ∈ wordsL
              · rw [if_pos hw] at htk
                rw [decide_eq_true hw]
                exact (hnext _ _ htk).congr (fun k => by (try dsimp only); rw [if_pos rfl])
              · rw [if_neg hw] at htk
                rw [decide_eq_false hw]
                exact (hnext _ _ htk).congr (fun k => by (try dsimp only); rw [if_neg (by decide)])
        have hl1 := rl1_tot s hs acc p n hp _ hn hj3 n 0 (by omega) (by omega) (by rw [Nat.add_zero, ← hn]; omega)
        have hj1 : Tot (fun k => ferruleref02_Lex.j1 k s acc (p : Int) 0 4 true) (lexR (preE acc (lexA (rest_ s p) p))) := hl1.step (fun k => rj1_true k s acc p)
        exact hj1.step (fun k => by rw [rl0_eq k s acc p c hlt hb, hq])
    · rw [step_end acc (by omega)]
      exact (Tot.pure _).step (fun k => rl0_end k s acc p (by omega))
theorem rlex_tot (s : ByteArray) : Tot (fun k => ferruleref02_Lex.f k s) (lexP s) := by
  by_cases hb : s.size > 65536
  · have e : lexP s = ([], 0, 3) := by unfold lexP; rw [if_pos hb]
    rw [e]
    refine (Tot.pure _).congr (fun k => ?_)
    unfold ferruleref02_Lex.f
    rw [if_pos (by omega)]
  · have hs : s.size ≤ 65536 := by omega
    rw [lexP_eq s hs]
    have hbl := blank_tot s (by omega)
    have h0 := rlex_l0 s hs (s.size + 1) (skipTo s 0) [] (by omega) (skipTo_le s 0 (by omega)) (skipTo_idem s 0) (Nat.zero_le _)
    have e2 : lexR (preE [] (lexA (rest_ s (skipTo s 0)) (skipTo s 0))) = lexR (lexA s.data.toList 0) := by
      rw [← lexA_at s 0, rest_zero]
      cases lexA s.data.toList 0 <;> rfl
    rw [e2] at h0
    have e3 : ((skipTo s 0 : Nat) : Int) = ((skipG false s.data.toList : Nat) : Int) := by unfold skipTo; rw [rest_zero, Nat.zero_add]
    rw [e3] at h0
    have h := Tot.bind (b := fun k (t : Int) => ferruleref02_Lex.l0 k s ([] : List S39) t) hbl h0
    refine h.congr (fun k => ?_)
    unfold ferruleref02_Lex.f
    rw [if_neg (by omega)]
theorem same_l0 (L : List S39) (hL : L.length < 1000000) : ∀ (d i : Nat), d = L.length - i → i ≤ L.length → Tot (fun k => ferruleref02_Same.l0 k L L (i : Int)) true
  | 0, i, hd, hi => by
    refine (Tot.pure _).step (fun k => ?_)
    rw [ferruleref02_Same.l0, if_neg (by omega)]
  | d + 1, i, hd, hi => by
    refine (same_l0 L hL d (i + 1) (by omega) (by omega)).step (fun k => ?_)
    rw [ferruleref02_Same.l0, if_pos (by omega), if_pos (by omega), if_pos (by omega), if_neg (by simp), w64 (by omega) (by omega)]
    rfl
theorem same_tot (L : List S39) (hL : L.length < 1000000) : Tot (fun k => ferruleref02_Same.f k L L) true := by
  refine (same_l0 L hL L.length 0 (by omega) (by omega)).congr (fun k => ?_)
  unfold ferruleref02_Same.f
  rw [if_pos rfl]
  rfl
theorem lexA_len : ∀ (k : Nat) (l : List UInt8) (at_ : Nat) (ts : List S39), l.length ≤ k → lexA l at_ = .ok ts → ts.length ≤ l.length := by
  intro k
  induction k with
  | zero =>
    intro l at_ ts hl h
    obtain rfl : l = [] := List.eq_nil_of_length_eq_zero (by omega)
    rw [lexA_done at_ rfl] at h
    injection h with h
    rw [← h]
    exact Nat.le_refl _
  | succ k ih =>
    intro l at_ ts hl h
    by_cases hd : l.drop (skipG false l) = []
    · rw [lexA_done at_ hd] at h
      injection h with h
      rw [← h]
      exact Nat.zero_le _
    · cases ht : tokL (l.drop (skipG false l)) with
      | error e => rw [lexA_bad at_ hd ht] at h; cases h
      | ok p =>
        obtain ⟨kind, n⟩ := p
        have hn := tokL_len ht
        rw [lexA_tok at_ hd ht] at h
        have hl2 : ((l.drop (skipG false l)).drop n).length < l.length := by simp at hn ⊢; omega
        cases hx : lexA ((l.drop (skipG false l)).drop n) (at_ + skipG false l + n) with
        | error e => rw [hx] at h; cases h
        | ok us =>
          rw [hx] at h
          injection h with h
          have := ih _ _ _ (by omega) hx
          rw [← h, List.length_cons]
          omega
theorem lexP_len (s : ByteArray) : (lexP s).1.length < 1000000 := by
  by_cases hb : s.size > 65536
  · unfold lexP; rw [if_pos hb]; simp
  · rw [lexP_eq s (by omega)]
    cases hx : lexA s.data.toList 0 with
    | error e => simp [lexR]
    | ok ts =>
      have := lexA_len _ _ _ _ (Nat.le_refl _) hx
      rw [show s.data.toList.length = s.size from Array.length_toList] at this
      show ts.length < 1000000
      omega
end Go.Proofs.YtafjbebbmfihaaaDoor.P
end

section
namespace Go.Proofs.YtafjbebbmfihaaaDoor.Pure
open Go.RowKit Go.Proofs.YtafjbebbmfihaaaDoor.P Go.Proofs.YtafjbebbmfihaaaDoorW.PrintWords Go.Proofs.YtafjbebbmfihaaaDoorW.PrintLast
set_option linter.unusedVariables false
set_option linter.unusedSimpArgs false
theorem tells_j0 (x : ByteArray) (hx : x.size ≤ 140737488351232) : Tot (fun k => ferrulelaw02_LexTells.j0 k x false) true := by
  obtain ⟨K1, h1⟩ := num_tot x hx
  obtain ⟨K2, h2⟩ := rnum_tot x hx
  obtain ⟨K3, h3⟩ := rword_tot x
  refine ⟨K1 + K2 + K3 + 1, fun k hk => ?_⟩
  obtain ⟨j, rfl⟩ : ∃ j, k = j + 1 := ⟨k - 1, by omega⟩
  have e1 : lex_Number.f j x = some (numP x.data.toList) := h1 j (by omega)
  have e2 : ferruleref02_Number.f j x = some (numP x.data.toList) := h2 j (by omega)
  have e3 : ferruleref02_Word.f j x = some (decide (x.data.toList ∈ wordsL)) := h3 j (by omega)
  have e4 : lex_Word.f j x = some (decide (x.data.toList ∈ wordsL)) := by
    unfold lex_Word.f
    rw [kw_mem]
  show ferrulelaw02_LexTells.j0 (j + 1) x false = some true
  rw [ferrulelaw02_LexTells.j0, if_neg (by decide), e1, Option.bind_some, e2, Option.bind_some, if_pos rfl, if_pos rfl, if_pos rfl, e4, Option.bind_some, e3, Option.bind_some, if_pos (by simp)]
  rfl
theorem LexTells : ferrulelaw02_LexTells.Pure := by
  intro a0 a1 w0 w1
  obtain ⟨K1, h1⟩ := rlex_tot a0
  obtain ⟨K2, h2⟩ := same_tot (lexP a0).1 (lexP_len a0)
  obtain ⟨K3, h3⟩ := tells_j0 a1 w1
  refine ⟨K1 + K2 + K3, ?_⟩
  have e1 : ferruleref02_Lex.f (K1 + K2 + K3) a0 = some (lexP a0) := h1 _ (by omega)
  have e2 : ferruleref02_Same.f (K1 + K2 + K3) (lexP a0).1 (lexP a0).1 = some true := h2 _ (by omega)
  have e3 : ferrulelaw02_LexTells.j0 (K1 + K2 + K3) a1 false = some true := h3 _ (by omega)
  have e0 : lex_Lex.f (K1 + K2 + K3) a0 = some (lexP a0) := rfl
  unfold ferrulelaw02_LexTells.f
  rw [e0, Option.bind_some, e1, Option.bind_some, e2, Option.bind_some, if_pos rfl, if_pos rfl, show ((lexP a0).2.2 != (lexP a0).2.2) = false from by simp]
  exact e3
end Go.Proofs.YtafjbebbmfihaaaDoor.Pure
end
