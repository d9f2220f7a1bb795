/- The scanner over lists: fuel, moves, two texts with a line's end between them, the parts of a text; no condition. -/
import Derived.Test.YtafjbebbmfihaaaDoorLDefs
namespace Go.Proofs.YtafjbebbmfihaaaDoor.P
set_option linter.unusedVariables false
set_option linter.unusedSimpArgs false
set_option linter.unusedSectionVars false
/-- The tokens of a text that stands at a place. -/
def lexA (l : List UInt8) (at_ : Nat) : Except (Nat × Int) (List S39) := lexE (l.length + 1) l at_
theorem lexE_fuel : ∀ (d d2 : Nat) (l : List UInt8) (at_ : Nat), l.length < d → l.length < d2 → lexE d l at_ = lexE d2 l at_
  | 0, _, _, _, h, _ => by omega
  | _ + 1, 0, _, _, _, h => by omega
  | d + 1, d2 + 1, l, at_, h, h2 => by
    rw [lexE, lexE]
    have hk := skipG_le false l
    split
    · rfl
    · rename_i hne
      cases ht : tokL (l.drop (skipG false l)) with
      | error e => rfl
      | ok p =>
        obtain ⟨kind, n⟩ := p
        have hn := tokL_len ht
        have hl : ((l.drop (skipG false l)).drop n).length < d := by simp at hn ⊢; omega
        have hl2 : ((l.drop (skipG false l)).drop n).length < d2 := by simp at hn ⊢; omega
        simp only [lexE_fuel d d2 _ (at_ + skipG false l + n) hl hl2]
/-- One step: the token ahead, then the rest. -/
theorem lexA_eq (l : List UInt8) (at_ : Nat) : lexA l at_ =
    if l.drop (skipG false l) = [] then .ok []
    else match tokL (l.drop (skipG false l)) with
      | .error e => .error (at_ + skipG false l, e)
      | .ok (kind, n) => match lexA ((l.drop (skipG false l)).drop n) (at_ + skipG false l + n) with
        | .error e => .error e
        | .ok ts => .ok (tokOf kind ((l.drop (skipG false l)).take n) (at_ + skipG false l) :: ts) := by
  rw [lexA, lexE]
  have hk := skipG_le false l
  split
  · rfl
  · cases ht : tokL (l.drop (skipG false l)) with
    | error e => rfl
    | ok p =>
      obtain ⟨kind, n⟩ := p
      have hn := tokL_len ht
      have hl : ((l.drop (skipG false l)).drop n).length < l.length := by simp at hn ⊢; omega
      simp only [lexA, lexE_fuel l.length (((l.drop (skipG false l)).drop n).length + 1) _ (at_ + skipG false l + n) hl (Nat.lt_succ_self _)]
      rfl
theorem lexA_done {l : List UInt8} (at_ : Nat) (h : l.drop (skipG false l) = []) : lexA l at_ = .ok [] := by rw [lexA_eq, if_pos h]
theorem lexA_bad {l : List UInt8} (at_ : Nat) {e : Int} (h : l.drop (skipG false l) ≠ []) (ht : tokL (l.drop (skipG false l)) = .error e) : lexA l at_ = .error (at_ + skipG false l, e) := by
  rw [lexA_eq, if_neg h, ht]
theorem lexA_tok {l : List UInt8} (at_ : Nat) {kind : Int} {n : Nat} (h : l.drop (skipG false l) ≠ []) (ht : tokL (l.drop (skipG false l)) = .ok (kind, n)) :
    lexA l at_ = match lexA ((l.drop (skipG false l)).drop n) (at_ + skipG false l + n) with
        | .error e => .error e
        | .ok ts => .ok (tokOf kind ((l.drop (skipG false l)).take n) (at_ + skipG false l) :: ts) := by
  rw [lexA_eq, if_neg h, ht]
theorem lexP_eq (s : ByteArray) (h : s.size ≤ 65536) : lexP s = lexR (lexA s.data.toList 0) := by
  unfold lexP
  rw [if_neg (by omega)]
  rfl
/-- A token at another place. -/
def shiftT (d : Nat) (t : S39) : S39 := ⟨t.f0, t.f1, t.f2 + (d : Int)⟩
def shiftE (d : Nat) : Except (Nat × Int) (List S39) → Except (Nat × Int) (List S39)
  | .ok ts => .ok (ts.map (shiftT d))
  | .error (p, e) => .error (p + d, e)
theorem lexE_shift (c : Nat) : ∀ (d : Nat) (l : List UInt8) (at_ : Nat), lexE d l (at_ + c) = shiftE c (lexE d l at_)
  | 0, _, _ => rfl
  | d + 1, l, at_ => by
    rw [lexE, lexE]
    split
    · rfl
    · cases ht : tokL (l.drop (skipG false l)) with
      | error e => show Except.error _ = Except.error _; rw [Nat.add_right_comm]
      | ok p =>
        obtain ⟨kind, n⟩ := p
        simp only
        rw [show at_ + c + skipG false l + n = at_ + skipG false l + n + c by omega, lexE_shift c d]
        cases hx : lexE d ((l.drop (skipG false l)).drop n) (at_ + skipG false l + n) with
        | error e => obtain ⟨p, e⟩ := e; rfl
        | ok ts =>
          simp only [shiftE, List.map_cons]
          congr 2
          unfold shiftT tokOf
          simp only [S39.mk.injEq, true_and]
          omega
theorem lexA_shift (l : List UInt8) (at_ c : Nat) : lexA l (at_ + c) = shiftE c (lexA l at_) := lexE_shift c _ l at_

/-! ### two texts with a line's end between them -/
theorem skipG_lines (b : Bool) (x y : List UInt8) : skipG b (x ++ 10 :: y) = if skipG b x = x.length then x.length + 1 + skipG false y else skipG b x := by
  induction x generalizing b with
  | nil =>
    rw [List.nil_append, skipG_nil, if_pos (show 0 = ([] : List UInt8).length from rfl)]
    cases b with
    | true => rw [skipG_t]; simp only [bne_self_eq_false, List.length_nil]; omega
    | false => rw [skipG_f, if_pos (by decide)]; simp only [List.length_nil]; omega
  | cons c t ih =>
    have hc : ∀ (m : Nat), (if m + 1 = (c :: t).length then (c :: t).length + 1 + skipG false y else m + 1) = (if m = t.length then t.length + 1 + skipG false y else m) + 1 := by
      intro m
      simp only [List.length_cons, Nat.add_right_cancel_iff]
      split <;> omega
    cases b with
    | true => rw [List.cons_append, skipG_t, skipG_t, ih, hc]
    | false =>
      rw [List.cons_append, skipG_f, skipG_f, ih, ih]
      have hh : (t ++ 10 :: y).head? = some 47 ↔ t.head? = some 47 := by
        cases t with
        | nil => simp
        | cons d t => simp
      by_cases h1 : isBl c = true
      · rw [if_pos h1, if_pos h1, hc]
      · rw [if_neg h1, if_neg h1]
        by_cases h2 : c = 47 ∧ t.head? = some 47
        · rw [if_pos (by rw [hh]; exact h2), if_pos h2, hc]
        · rw [if_neg (by rw [hh]; exact h2), if_neg h2, if_neg (by simp)]
theorem takeWhile_lines (x y : List UInt8) : (x ++ 10 :: y).takeWhile isPt = x.takeWhile isPt := by
  induction x with
  | nil => rw [List.nil_append, List.takeWhile_cons_of_neg (by decide)]; rfl
  | cons c t ih =>
    rw [List.cons_append]
    cases h : isPt c with
    | true => rw [List.takeWhile_cons_of_pos h, List.takeWhile_cons_of_pos h, ih]
    | false => rw [List.takeWhile_cons_of_neg (by simp [h]), List.takeWhile_cons_of_neg (by simp [h])]
theorem signL_lines (x y : List UInt8) (h : x ≠ []) : signL (x ++ 10 :: y) = signL x := by
  unfold signL
  match x, h with
  | [c], _ =>
    have h1 : [c, (10 : UInt8)] ∉ signs2 := by unfold signs2; simp
    have h2 : [c] ∉ signs2 := by unfold signs2; simp
    show (if [c, (10 : UInt8)] ∈ signs2 then 2 else if ∃ b ∈ some c, b ∈ signs1 then 1 else 0) = (if [c] ∈ signs2 then 2 else if ∃ b ∈ some c, b ∈ signs1 then 1 else 0)
    rw [if_neg h1, if_neg h2]
  | c :: d :: t, _ => rfl
theorem tokL_lines (x y : List UInt8) (h : x ≠ []) : tokL (x ++ 10 :: y) = tokL x := by
  unfold tokL
  rw [takeWhile_lines, signL_lines x y h]
  have : (x ++ 10 :: y).head? = x.head? := by
    cases x with
    | nil => exact absurd rfl h
    | cons c t => rfl
  rw [this]
/-- The tokens of both, or the first one's error. -/
def bothE : Except (Nat × Int) (List S39) → Except (Nat × Int) (List S39) → Except (Nat × Int) (List S39)
  | .error e, _ => .error e
  | .ok _, .error e => .error e
  | .ok ts, .ok us => .ok (ts ++ us)
theorem lexA_lines (y : List UInt8) : ∀ (k : Nat) (x : List UInt8) (at_ : Nat), x.length ≤ k → lexA (x ++ 10 :: y) at_ = bothE (lexA x at_) (lexA y (at_ + x.length + 1)) := by
  intro k
  induction k with
  | zero =>
    intro x at_ h
    obtain rfl : x = [] := List.eq_nil_of_length_eq_zero (by omega)
    rw [lexA_done at_ (l := []) rfl]
    have hs : skipG false ([] ++ 10 :: y) = 1 + skipG false y := by rw [skipG_lines]; rw [skipG_nil]; simp
    have hd : ([] ++ 10 :: y).drop (skipG false ([] ++ 10 :: y)) = y.drop (skipG false y) := by rw [hs, Nat.add_comm 1]; rfl
    rw [lexA_eq, lexA_eq y, hd, hs]
    simp only [List.length_nil, Nat.add_zero]
    rw [show at_ + (1 + skipG false y) = at_ + 1 + skipG false y by omega]
    split
    · rfl
    · cases tokL (y.drop (skipG false y)) with
      | error e => rfl
      | ok p =>
        obtain ⟨kind, n⟩ := p
        simp only
        cases lexA ((y.drop (skipG false y)).drop n) (at_ + 1 + skipG false y + n) <;> rfl
  | succ k ih =>
    intro x at_ h
    by_cases hk : skipG false x = x.length
    · rw [lexA_done at_ (l := x) (by rw [hk]; simp)]
      have hs : skipG false (x ++ 10 :: y) = x.length + 1 + skipG false y := by rw [skipG_lines, if_pos hk]
      have hd : (x ++ 10 :: y).drop (skipG false (x ++ 10 :: y)) = y.drop (skipG false y) := by
        rw [hs, List.drop_append, List.drop_eq_nil_of_le (by omega), List.nil_append, show x.length + 1 + skipG false y - x.length = skipG false y + 1 by omega, List.drop_succ_cons]
      rw [lexA_eq, lexA_eq y, hd, hs]
      rw [show at_ + (x.length + 1 + skipG false y) = at_ + x.length + 1 + skipG false y by omega]
      split
      · rfl
      · cases tokL (y.drop (skipG false y)) with
        | error e => rfl
        | ok p =>
          obtain ⟨kind, n⟩ := p
          simp only
          cases lexA ((y.drop (skipG false y)).drop n) (at_ + x.length + 1 + skipG false y + n) <;> rfl
    · have hle := skipG_le false x
      have hs : skipG false (x ++ 10 :: y) = skipG false x := by rw [skipG_lines, if_neg hk]
      have hd : (x ++ 10 :: y).drop (skipG false x) = x.drop (skipG false x) ++ 10 :: y := by rw [List.drop_append_of_le_length hle]
      have hne : x.drop (skipG false x) ≠ [] := by
        intro e
        have := congrArg List.length e
        simp at this
        omega
      cases ht : tokL (x.drop (skipG false x)) with
      | error e =>
        rw [lexA_bad at_ hne ht, lexA_bad at_ (l := x ++ 10 :: y) (by rw [hs, hd]; simp) (by rw [hs, hd, tokL_lines _ _ hne]; exact ht), hs]
        rfl
      | ok p =>
        obtain ⟨kind, n⟩ := p
        have hn := tokL_len ht
        rw [lexA_tok at_ hne ht, lexA_tok at_ (l := x ++ 10 :: y) (by rw [hs, hd]; simp) (by rw [hs, hd, tokL_lines _ _ hne]; exact ht), hs, hd, List.drop_append_of_le_length hn.2, List.take_append_of_le_length hn.2]
        rw [ih ((x.drop (skipG false x)).drop n) (at_ + skipG false x + n) (by simp at hn ⊢; omega)]
        have hl : at_ + skipG false x + n + ((x.drop (skipG false x)).drop n).length + 1 = at_ + x.length + 1 := by simp at hn ⊢; omega
        rw [hl]
        cases lexA ((x.drop (skipG false x)).drop n) (at_ + skipG false x + n) with
        | error e => rfl
        | ok ts => cases lexA y (at_ + x.length + 1) <;> rfl
end Go.Proofs.YtafjbebbmfihaaaDoor.P
