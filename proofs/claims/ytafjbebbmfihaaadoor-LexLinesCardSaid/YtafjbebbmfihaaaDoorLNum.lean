/- lex.Number tells what the plain function tells; no condition beyond a text's size. -/
import Derived.Test.YtafjbebbmfihaaaDoorLRest
import Derived.Test.YtafjbebbmfihaaaDoorPx14
namespace Go.Proofs.YtafjbebbmfihaaaDoor.P
open Go.RowKit Go.Proofs.YtafjbebbmfihaaaDoorW.PrintWords Go.Proofs.YtafjbebbmfihaaaDoorW.PrintLast Go.Proofs.YtafjbebbmfihaaaDoorW.PrintMore
set_option linter.unusedVariables false
set_option linter.unusedSimpArgs false
set_option linter.unusedSectionVars false
theorem digit_is (c : UInt8) : lex_isDigit.f (c.toNat : Int) = some (isDg c) := byte_all (P := fun c => lex_isDigit.f (c.toNat : Int) = some (isDg c)) (by decide +kernel) c
theorem dg_range (c : UInt8) (h : isDg c = true) : 48 ≤ c.toNat ∧ c.toNat ≤ 57 := by
  have := byte_all (P := fun c => isDg c = true → 48 ≤ c.toNat ∧ c.toNat ≤ 57) (by decide +kernel) c
  exact this h
theorem valL_snoc (d : List UInt8) (c : UInt8) : valL (d ++ [c]) = valL d * 10 + (c.toNat - 48) := by
  unfold valL
  rw [List.foldl_append]
  rfl
theorem valL_lt : ∀ (d : List UInt8), (∀ c ∈ d, isDg c = true) → valL d < 10 ^ d.length := by
  suffices ∀ (k : Nat) (d : List UInt8), d.length = k → (∀ c ∈ d, isDg c = true) → valL d < 10 ^ d.length from fun d => this d.length d rfl
  intro k
  induction k with
  | zero =>
    intro d h _
    rw [List.eq_nil_of_length_eq_zero h]
    decide
  | succ k ih =>
    intro d hl h
    have hne : d ≠ [] := fun e => by rw [e] at hl; cases hl
    obtain ⟨d2, c, rfl⟩ : ∃ d2 c, d = d2 ++ [c] := ⟨d.dropLast, d.getLast hne, (List.dropLast_concat_getLast hne).symm⟩
    have h1 := ih d2 (by simpa using hl) (fun x hx => h x (List.mem_append_left _ hx))
    have h2 := dg_range c (h c (by simp))
    rw [valL_snoc, List.length_append, List.length_singleton, Nat.pow_succ]
    omega
theorem dropWhile_drop {α : Type} (p : α → Bool) : ∀ l : List α, l.dropWhile p = l.drop (l.takeWhile p).length
  | [] => rfl
  | c :: t => by
    cases h : p c with
    | true => rw [List.takeWhile_cons_of_pos h, List.length_cons, List.drop_succ_cons, List.dropWhile_cons_of_pos h, dropWhile_drop p t]
    | false => rw [List.takeWhile_cons_of_neg (by simp [h]), List.dropWhile_cons_of_neg (by simp [h])]; rfl
theorem takeWhile_take {α : Type} (p : α → Bool) : ∀ l : List α, l.takeWhile p = l.take (l.takeWhile p).length
  | [] => rfl
  | c :: t => by
    cases h : p c with
    | true => rw [List.takeWhile_cons_of_pos h, List.length_cons, List.take_succ_cons, ← takeWhile_take p t]
    | false => rw [List.takeWhile_cons_of_neg (by simp [h])]; rfl
theorem mem_takeWhile {α : Type} (p : α → Bool) : ∀ (l : List α) {x : α}, x ∈ l.takeWhile p → p x = true
  | [], _, h => by cases h
  | c :: t, x, h => by
    cases hc : p c with
    | true =>
      rw [List.takeWhile_cons_of_pos hc] at h
      rcases List.mem_cons.1 h with rfl | h
      · exact hc
      · exact mem_takeWhile p t h
    | false => rw [List.takeWhile_cons_of_neg (by simp [hc])] at h; cases h
/-- Where the digits that begin at a place end. -/
theorem dig_step (s : ByteArray) (i D : Nat) (h : ((rest_ s i).takeWhile isDg).length = D - i) (hi : i ≤ D) :
    (i < D → i < s.size ∧ ∃ c : UInt8, rest_ s i = c :: rest_ s (i + 1) ∧ isDg c = true ∧ bt s (i : Int) = (c.toNat : Int) ∧ ((rest_ s (i + 1)).takeWhile isDg).length = D - (i + 1)) ∧
    (i = D → i < s.size → ∃ c : UInt8, isDg c = false ∧ bt s (i : Int) = (c.toNat : Int)) := by
  constructor
  · intro hlt
    have hl := takeWhile_length_le isDg (rest_ s i)
    rw [rest_len] at hl
    have his : i < s.size := by omega
    obtain ⟨c, hc, hb⟩ := rest_cons s i his
    rw [hc] at h
    cases hq : isDg c with
    | true =>
      rw [List.takeWhile_cons_of_pos hq, List.length_cons] at h
      exact ⟨his, c, hc, hq, hb, by omega⟩
    | false =>
      rw [List.takeWhile_cons_of_neg (by simp [hq])] at h
      simp at h
      omega
  · intro he his
    obtain ⟨c, hc, hb⟩ := rest_cons s i his
    rw [hc] at h
    refine ⟨c, ?_, hb⟩
    cases hq : isDg c with
    | true =>
      rw [List.takeWhile_cons_of_pos hq, List.length_cons] at h
      omega
    | false => rfl
theorem num_j4 (k : Nat) (v : Int) (x : ByteArray) (b : Bool) : lex_Number.j4 (k + 1) v x b = some (if b && decide (v ≤ 4294967295) then (v, x, 0) else (0, ⟨#[]⟩, 21)) := by
  rw [lex_Number.j4]
  cases b with
  | false => rw [if_neg (by decide)]; rfl
  | true =>
    rw [if_pos rfl]
    by_cases h : v ≤ 4294967295
    · rw [if_neg (by omega), decide_eq_true h]; rfl
    · rw [if_pos (by omega), decide_eq_false h]; rfl
section
variable (s : ByteArray) (hs : s.size ≤ 140737488351232)
include hs
theorem num_l0 (D : Nat) (r : Int × ByteArray × Int) (hD : D ≤ s.size) (hr : Tot (fun k => lex_Number.j1 k s 0 (D : Int)) r) : ∀ (d i : Nat), d = D - i → i ≤ D → ((rest_ s i).takeWhile isDg).length = D - i → Tot (fun k => lex_Number.l0 k s 0 (i : Int)) r
  | 0, i, hd, hi, ht => by
    obtain rfl : i = D := by omega
    refine hr.step (fun k => ?_)
    rw [lex_Number.l0]
    by_cases hlt : i < s.size
    · obtain ⟨c, hc, hb⟩ := (dig_step s i i ht (Nat.le_refl _)).2 rfl hlt
      rw [if_pos (by omega), if_pos (by omega), hb, digit_is, hc]
      rfl
    · rw [if_neg (by omega)]
  | d + 1, i, hd, hi, ht => by
    obtain ⟨his, c, hc, hq, hb, ht2⟩ := (dig_step s i D ht hi).1 (by omega)
    refine (num_l0 D r hD hr d (i + 1) (by omega) (by omega) ht2).step (fun k => ?_)
    rw [lex_Number.l0, if_pos (by omega), if_pos (by omega), hb, digit_is, hq]
    rw [Option.bind_some, if_pos rfl, w64 (by omega) (by omega)]
    rfl
theorem num_l1 (D : Nat) (r : Int × ByteArray × Int) (hD : D ≤ s.size) (hD10 : D ≤ 10) (hdg : ∀ i, i < D → ∃ c : UInt8, (rest_ s 0)[i]? = some c ∧ isDg c = true) 
    (hr : Tot (fun k => lex_Number.l1 k s (valL ((rest_ s 0).take D) : Int) (D : Int) (D : Int) (D : Int)) r) : ∀ (d i : Nat), d = D - i → i ≤ D → Tot (fun k => lex_Number.l1 k s (valL ((rest_ s 0).take i) : Int) (D : Int) (D : Int) (i : Int)) r
  | 0, i, hd, hi => by
    obtain rfl : i = D := by omega
    exact hr
  | d + 1, i, hd, hi => by
    have his : i < s.size := by omega
    obtain ⟨c, hc, hq⟩ := hdg i (by omega)
    have hb : bt s (i : Int) = (c.toNat : Int) := by
      obtain ⟨c2, hc2, hb⟩ := rest_cons s i his
      have e : (rest_ s 0)[i]? = some c2 := by
        have h0 : (rest_ s 0).drop i = rest_ s i := by rw [rest_drop, Nat.zero_add]
        have : ((rest_ s 0).drop i)[0]? = some c2 := by rw [h0, hc2]; rfl
        simpa using this
      rw [hc] at e
      injection e with e
      rw [e]
      exact hb
    have hrg := dg_range c hq
    have htk : (rest_ s 0).take (i + 1) = (rest_ s 0).take i ++ [c] := by rw [List.take_add_one, hc]; rfl
    have hlt : valL ((rest_ s 0).take i) < 10 ^ i := by
      have h1 := valL_lt ((rest_ s 0).take i) (fun x hx => by
        obtain ⟨j, hj, e⟩ := List.mem_take_iff_getElem.1 hx
        obtain ⟨c3, hc3, hq3⟩ := hdg j (by omega)
        rw [List.getElem?_eq_getElem (by omega)] at hc3
        injection hc3 with hc3
        rw [← e, hc3]
        exact hq3)
      have h2 : ((rest_ s 0).take i).length ≤ i := List.length_take_le _ _
      exact Nat.lt_of_lt_of_le h1 (Nat.pow_le_pow_right (by decide) h2)
    have hpw : 10 ^ i ≤ 10 ^ 9 := Nat.pow_le_pow_right (by decide) (by omega)
    refine (num_l1 D r hD hD10 hdg hr d (i + 1) (by omega) (by omega)).step (fun k => ?_)
    show lex_Number.l1 (k + 1) s _ _ _ _ = _
    have hv : wrap64 (wrap64 (10 * (valL ((rest_ s 0).take i) : Int)) + (bt s (i : Int) - 48) % 256) = (valL ((rest_ s 0).take (i + 1)) : Int) := by
      rw [htk, valL_snoc, hb, w64 (n := 10 * (valL ((rest_ s 0).take i) : Int)) (by omega) (by omega), w64 (by omega) (by omega)]
      omega
    rw [lex_Number.l1, if_pos (by omega), if_pos (by omega), if_pos (by omega), hv, w64 (by omega) (by omega)]
    rfl
theorem num_kinds (k : Nat) (D : Nat) (v : Int) (hD : D ≤ s.size) : lex_Number.l1 (k + 2) s v (D : Int) (D : Int) (D : Int) = some (if decide (rest_ s D ∈ kindsL) && decide (v ≤ 4294967295) then (v, s.extract D s.size, 0) else (0, ⟨#[]⟩, 21)) := by
  have hR : (s.extract ((D : Int)).toNat s.size).toList = rest_ s D := by rw [Lib.toList_data, Int.toNat_natCast, extract_rest]
  rw [lex_Number.l1, if_neg (by omega), if_pos (by omega), if_pos (by omega)]
  simp only [num_j4, hR]
  have hk : decide (rest_ s D ∈ kindsL) = (decide (rest_ s D = []) || decide (rest_ s D = [105, 56]) || decide (rest_ s D = [105, 49, 54]) || decide (rest_ s D = [105, 51, 50]) || decide (rest_ s D = [117, 56]) || decide (rest_ s D = [117, 49, 54]) || decide (rest_ s D = [117, 51, 50])) := by
    rw [Bool.eq_iff_iff]
    unfold kindsL
    simp [or_assoc]
  rw [hk, Int.toNat_natCast]
  generalize rest_ s D = R
  generalize s.extract D s.size = X
  by_cases h1 : R = []
  · rw [if_pos h1, h1]; rfl
  rw [if_neg h1, decide_eq_false h1]
  by_cases h2 : R = [105, 56]
  · rw [if_pos h2, h2]; rfl
  rw [if_neg h2, decide_eq_false h2]
  by_cases h3 : R = [105, 49, 54]
  · rw [if_pos h3, h3]; rfl
  rw [if_neg h3, decide_eq_false h3]
  by_cases h4 : R = [105, 51, 50]
  · rw [if_pos h4, h4]; rfl
  rw [if_neg h4, decide_eq_false h4]
  by_cases h5 : R = [117, 56]
  · rw [if_pos h5, h5]; rfl
  rw [if_neg h5, decide_eq_false h5]
  by_cases h6 : R = [117, 49, 54]
  · rw [if_pos h6, h6]; rfl
  rw [if_neg h6, decide_eq_false h6]
  by_cases h7 : R = [117, 51, 50]
  · rw [h7]; rfl
  · rw [decide_eq_false h7, beq_eq_false_iff_ne.2 h7]; rfl
theorem num_tot : Tot (fun k => lex_Number.f k s) (numP s.data.toList) := by
  have hsz : s.data.toList.length = s.size := Array.length_toList
  have hDl := takeWhile_length_le isDg s.data.toList
  rw [hsz] at hDl
  have hdrop := dropWhile_drop isDg s.data.toList
  have htake := takeWhile_take isDg s.data.toList
  obtain ⟨D, hD⟩ : ∃ D, D = (s.data.toList.takeWhile isDg).length := ⟨_, rfl⟩
  rw [← hD] at hDl hdrop htake
  have hdrop2 : s.data.toList.dropWhile isDg = rest_ s D := hdrop
  have htake2 : s.data.toList.takeWhile isDg = (rest_ s 0).take D := htake
  have hdg : ∀ i, i < D → ∃ c : UInt8, (rest_ s 0)[i]? = some c ∧ isDg c = true := by
    intro i hi
    have hl : i < (s.data.toList.takeWhile isDg).length := by omega
    refine ⟨(s.data.toList.takeWhile isDg)[i], ?_, ?_⟩
    · have h1 : ((rest_ s 0).take D)[i]? = some ((s.data.toList.takeWhile isDg)[i]) := by rw [← htake2]; exact List.getElem?_eq_getElem hl
      rw [List.getElem?_take, if_pos hi] at h1
      exact h1
    · exact mem_takeWhile isDg _ (List.getElem_mem hl)
  have hX : s.extract D s.size = ⟨(rest_ s D).toArray⟩ := bytes_ext (extract_rest s D)
  have hno : numOk s.data.toList = (decide (0 < D) && decide (D ≤ 10) && !(decide (1 < D) && decide (s.data.toList.head? = some 48)) && decide (rest_ s D ∈ kindsL) && decide (valL ((rest_ s 0).take D) ≤ 4294967295)) := by
    unfold numOk
    rw [← hD, hdrop2, htake2]
  have hnp : numP s.data.toList = if numOk s.data.toList then ((valL ((rest_ s 0).take D) : Int), s.extract D s.size, 0) else (0, ⟨#[]⟩, 21) := by
    unfold numP
    rw [hdrop2, htake2, hX]
  have ht : Tot (fun k => lex_Number.j2 k s 0 (D : Int) true) (0, ⟨#[]⟩, 21) := by
    refine (Tot.pure _).step (fun k => ?_)
    rw [lex_Number.j2, if_pos rfl]
  have hf : D ≤ 10 → Tot (fun k => lex_Number.j2 k s 0 (D : Int) false) (if decide (rest_ s D ∈ kindsL) && decide (((valL ((rest_ s 0).take D) : Nat) : Int) ≤ 4294967295) then ((valL ((rest_ s 0).take D) : Int), s.extract D s.size, 0) else (0, ⟨#[]⟩, 21)) := by
    intro h10
    have h1 := num_l1 s hs D _ hDl h10 hdg (Tot.step (f := fun k => lex_Number.l1 k s (valL ((rest_ s 0).take D) : Int) (D : Int) (D : Int) (D : Int)) (Tot.step (f := fun k => lex_Number.l1 (k + 1) s (valL ((rest_ s 0).take D) : Int) (D : Int) (D : Int) (D : Int)) (Tot.pure _) (fun k => num_kinds s hs k D _ hDl)) (fun k => rfl)) D 0 (by omega) (by omega)
    refine h1.step (fun k => ?_)
    rw [lex_Number.j2, if_neg (by decide)]
    rfl
  refine (num_l0 s hs D (numP s.data.toList) hDl ?_ D 0 (by omega) (by omega) (by rw [rest_zero, ← hD]; omega)).congr (fun k => rfl)
  by_cases h0 : D = 0
  · have e : numP s.data.toList = (0, ⟨#[]⟩, 21) := by rw [hnp, hno, decide_eq_false (show ¬ 0 < D by omega)]; rfl
    rw [e]
    refine ht.step (fun k => ?_)
    rw [lex_Number.j1, if_pos (by omega)]
  by_cases h10 : D > 10
  · have e : numP s.data.toList = (0, ⟨#[]⟩, 21) := by rw [hnp, hno, decide_eq_false (show ¬ D ≤ 10 by omega), Bool.and_false]; rfl
    rw [e]
    refine ht.step (fun k => ?_)
    rw [lex_Number.j1, if_neg (by omega), if_pos (by omega)]
  have h10 : D ≤ 10 := by omega
  have hf := hf h10
  have hv : decide (((valL ((rest_ s 0).take D) : Nat) : Int) ≤ 4294967295) = decide (valL ((rest_ s 0).take D) ≤ 4294967295) := by
    rw [Bool.eq_iff_iff, decide_eq_true_iff, decide_eq_true_iff]
    omega
  rw [hv] at hf
  by_cases h1 : D > 1
  · obtain ⟨c, hc, hb⟩ := rest_cons s 0 (by omega)
    have hh : decide (s.data.toList.head? = some 48) = (bt s 0 == 48) := by
      have e0 : s.data.toList = c :: rest_ s 1 := hc
      have hb0 : bt s 0 = (c.toNat : Int) := hb
      rw [e0, hb0, Bool.eq_iff_iff, decide_eq_true_iff, beq_iff_eq, List.head?_cons, Option.some.injEq]
      constructor
      · rintro rfl; rfl
      · intro h; exact UInt8.toNat_inj.1 (by have : (48 : UInt8).toNat = 48 := rfl; omega)
    cases hz : (bt s 0 == 48) with
    | true =>
      have e : numP s.data.toList = (0, ⟨#[]⟩, 21) := by rw [hnp, hno, hh, hz, decide_eq_true h1]; simp
      rw [e]
      refine ht.step (fun k => ?_)
      rw [lex_Number.j1, if_neg (by omega), if_neg (by omega), if_pos (by omega), if_pos (by omega), hz]
    | false =>
      have e : numP s.data.toList = (if decide (rest_ s D ∈ kindsL) && decide (valL ((rest_ s 0).take D) ≤ 4294967295) then ((valL ((rest_ s 0).take D) : Int), s.extract D s.size, 0) else (0, ⟨#[]⟩, 21)) := by
        rw [hnp, hno, hh, hz, decide_eq_true (show 0 < D by omega), decide_eq_true h10, Bool.and_false]
        rfl
      rw [e]
      refine hf.step (fun k => ?_)
      rw [lex_Number.j1, if_neg (by omega), if_neg (by omega), if_pos (by omega), if_pos (by omega), hz]
  · have e : numP s.data.toList = (if decide (rest_ s D ∈ kindsL) && decide (valL ((rest_ s 0).take D) ≤ 4294967295) then ((valL ((rest_ s 0).take D) : Int), s.extract D s.size, 0) else (0, ⟨#[]⟩, 21)) := by
      rw [hnp, hno, decide_eq_false h1, decide_eq_true (show 0 < D by omega), decide_eq_true h10, Bool.false_and]
      rfl
    rw [e]
    refine hf.step (fun k => ?_)
    rw [lex_Number.j1, if_neg (by omega), if_neg (by omega), if_neg (by omega)]
end
end Go.Proofs.YtafjbebbmfihaaaDoor.P
