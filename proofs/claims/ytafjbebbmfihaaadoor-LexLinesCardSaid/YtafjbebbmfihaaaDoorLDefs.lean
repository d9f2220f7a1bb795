/- The scanner over a list of bytes, plain functions and first laws; no condition. -/
import Derived.Test.YtafjbebbmfihaaaDoorPx0
import Derived.Lib.Strings
namespace Go.Proofs.YtafjbebbmfihaaaDoor.P
set_option linter.unusedVariables false
set_option linter.unusedSimpArgs false
set_option linter.unusedSectionVars false
def isBl (c : UInt8) : Bool := c == 32 || c == 9 || c == 10 || c == 13
def isDg (c : UInt8) : Bool := c ≥ 48 && c ≤ 57
def isLt (c : UInt8) : Bool := (c ≥ 97 && c ≤ 122) || (c ≥ 65 && c ≤ 90) || c == 95
def isPt (c : UInt8) : Bool := isLt c || isDg c
/-- How many bytes are passed by; true: within a remark. -/
def skipG : Bool → List UInt8 → Nat
  | _, [] => 0
  | true, c :: t => skipG (c != 10) t + 1
  | false, c :: t => if isBl c then skipG false t + 1 else if c = 47 ∧ t.head? = some 47 then skipG true t + 1 else 0
def signs2 : List (List UInt8) := [[45, 62], [61, 62], [58, 58], [61, 61], [33, 61], [60, 61], [62, 61], [38, 38], [124, 124], [60, 60], [62, 62]]
def signs1 : List UInt8 := [40, 41, 123, 125, 91, 93, 60, 62, 43, 45, 42, 47, 37, 38, 124, 94, 33, 61, 44, 59, 58, 46]
/-- How long the sign is that stands at the head. -/
def signL (l : List UInt8) : Nat := if l.take 2 ∈ signs2 then 2 else if ∃ c ∈ l.head?, c ∈ signs1 then 1 else 0
def kindsL : List (List UInt8) := [[], [105, 56], [105, 49, 54], [105, 51, 50], [117, 56], [117, 49, 54], [117, 51, 50]]
def valL (d : List UInt8) : Nat := d.foldl (fun v c => v * 10 + (c.toNat - 48)) 0
/-- A number is told. -/
def numOk (l : List UInt8) : Bool :=
  decide (0 < (l.takeWhile isDg).length) && decide ((l.takeWhile isDg).length ≤ 10) && !(decide (1 < (l.takeWhile isDg).length) && decide (l.head? = some 48)) && decide (l.dropWhile isDg ∈ kindsL) && decide (valL (l.takeWhile isDg) ≤ 4294967295)
def numP (l : List UInt8) : Int × ByteArray × Int := if numOk l then ((valL (l.takeWhile isDg) : Int), ⟨(l.dropWhile isDg).toArray⟩, 0) else (0, ⟨#[]⟩, 21)
def wordsL : List (List UInt8) := [[102, 110], [115, 116, 114, 117, 99, 116], [101, 110, 117, 109], [99, 111, 110, 115, 116], [108, 101, 116], [109, 117, 116], [105, 102], [101, 108, 115, 101], [109, 97, 116, 99, 104], [119, 104, 105, 108, 101], [108, 111, 111, 112], [98, 114, 101, 97, 107], [99, 111, 110, 116, 105, 110, 117, 101], [114, 101, 116, 117, 114, 110], [116, 114, 117, 101], [102, 97, 108, 115, 101], [97, 115]]
/-- The token at the head: its kind and length, or the error's number. -/
def tokL (l : List UInt8) : Except Int (Int × Nat) :=
  if (l.takeWhile isPt).length = 0 then (if signL l = 0 then .error 20 else .ok (4, signL l))
  else if (l.head?.any isDg) then (if numOk (l.takeWhile isPt) then .ok (2, (l.takeWhile isPt).length) else .error 21)
  else if 40 < (l.takeWhile isPt).length then .error 20
  else if l.takeWhile isPt ∈ wordsL then .ok (3, (l.takeWhile isPt).length) else .ok (1, (l.takeWhile isPt).length)
def tokOf (kind : Int) (t : List UInt8) (at_ : Nat) : S39 := ⟨kind, ⟨t.toArray⟩, (at_ : Int)⟩
/-- The tokens of what is left, that stands at a place. -/
def lexE : Nat → List UInt8 → Nat → Except (Nat × Int) (List S39)
  | 0, _, _ => .ok []
  | d + 1, l, at_ =>
    if l.drop (skipG false l) = [] then .ok []
    else match tokL (l.drop (skipG false l)) with
      | .error e => .error (at_ + skipG false l, e)
      | .ok (kind, n) => match lexE d ((l.drop (skipG false l)).drop n) (at_ + skipG false l + n) with
        | .error e => .error e
        | .ok ts => .ok (tokOf kind ((l.drop (skipG false l)).take n) (at_ + skipG false l) :: ts)
def lexR : Except (Nat × Int) (List S39) → List S39 × Int × Int
  | .ok ts => (ts, 0, 0)
  | .error (p, e) => ([], (p : Int), e)
def lexP (s : ByteArray) : List S39 × Int × Int := if s.size > 65536 then ([], 0, 3) else lexR (lexE (s.size + 1) s.data.toList 0)

/-! ### laws -/
theorem skipG_nil (b : Bool) : skipG b [] = 0 := by cases b <;> rfl
theorem skipG_t (c : UInt8) (t : List UInt8) : skipG true (c :: t) = skipG (c != 10) t + 1 := rfl
theorem skipG_f (c : UInt8) (t : List UInt8) : skipG false (c :: t) = if isBl c then skipG false t + 1 else if c = 47 ∧ t.head? = some 47 then skipG true t + 1 else 0 := rfl
theorem skipG_le : ∀ (b : Bool) (l : List UInt8), skipG b l ≤ l.length
  | _, [] => by cases ‹Bool› <;> simp [skipG]
  | true, c :: t => by rw [skipG]; have := skipG_le (c != 10) t; simp; omega
  | false, c :: t => by
    rw [skipG]
    have h1 := skipG_le false t
    have h2 := skipG_le true t
    split
    · simp; omega
    · split
      · simp; omega
      · simp
theorem skipG_blank : ∀ l : List UInt8, skipG false l = (l.takeWhile isBl).length + skipG false (l.drop (l.takeWhile isBl).length)
  | [] => rfl
  | c :: t => by
    cases h : isBl c with
    | true =>
      rw [skipG, if_pos h, List.takeWhile_cons_of_pos h, List.length_cons, List.drop_succ_cons, skipG_blank t]
      omega
    | false => rw [List.takeWhile_cons_of_neg (by simp [h])]; simp
theorem skipG_line : ∀ l : List UInt8, skipG true l = (l.takeWhile (· != 10)).length + skipG false (l.drop (l.takeWhile (· != 10)).length)
  | [] => rfl
  | c :: t => by
    cases h : c != 10 with
    | true =>
      have e : (c :: t).takeWhile (· != 10) = c :: t.takeWhile (· != 10) := List.takeWhile_cons_of_pos (p := (· != 10)) h
      rw [skipG, h, e, List.length_cons, List.drop_succ_cons, skipG_line t]
      omega
    | false =>
      have hc : c = 10 := by simpa using h
      have e : (c :: t).takeWhile (· != 10) = [] := List.takeWhile_cons_of_neg (p := (· != 10)) (by simp [h])
      rw [e, skipG, h]
      subst hc
      simp only [List.length_nil, List.drop_zero, Nat.zero_add]
      rw [skipG, if_pos (by decide)]
theorem skipG_remark (t : List UInt8) : skipG false (47 :: 47 :: t) = skipG true (47 :: 47 :: t) := by
  rw [skipG_f, if_neg (by decide), if_pos ⟨rfl, rfl⟩]
  rfl
theorem skipG_stop {l : List UInt8} (h1 : (l.takeWhile isBl).length = 0) (h2 : ∀ t, l ≠ 47 :: 47 :: t) : skipG false l = 0 := by
  cases l with
  | nil => rfl
  | cons c t =>
    cases h : isBl c with
    | true => rw [List.takeWhile_cons_of_pos h] at h1; cases h1
    | false =>
      rw [skipG, if_neg (by simp [h]), if_neg]
      rintro ⟨rfl, h3⟩
      cases t with
      | nil => cases h3
      | cons d t =>
        injection h3 with h3
        subst h3
        exact h2 t rfl
theorem skipG_idem (b : Bool) : ∀ l : List UInt8, skipG false (l.drop (skipG b l)) = 0 := by
  intro l
  induction l generalizing b with
  | nil => cases b <;> rfl
  | cons c t ih =>
    cases b with
    | true => rw [skipG, List.drop_succ_cons]; exact ih _
    | false =>
      rw [skipG]
      split
      · rw [List.drop_succ_cons]; exact ih _
      · split
        · rw [List.drop_succ_cons]; exact ih _
        · rename_i h1 h2
          rw [List.drop_zero, skipG, if_neg h1, if_neg h2]
theorem signL_le (l : List UInt8) : signL l ≤ l.length := by
  unfold signL
  split
  · rename_i h
    have : (l.take 2).length = 2 := by
      have h2 : ∀ x ∈ signs2, x.length = 2 := by decide
      exact h2 _ h
    simp at this
    omega
  · split
    · rename_i h
      cases l with
      | nil => simp at h
      | cons c t => simp
    · omega
theorem takeWhile_length_le {α : Type} (p : α → Bool) (l : List α) : (l.takeWhile p).length ≤ l.length := (List.takeWhile_prefix p).length_le
theorem tokL_len {l : List UInt8} {kind : Int} {n : Nat} (h : tokL l = .ok (kind, n)) : 0 < n ∧ n ≤ l.length := by
  unfold tokL at h
  have hs := signL_le l
  have ht := takeWhile_length_le isPt l
  repeat' split at h
  all_goals first | (cases h; omega) | cases h
end Go.Proofs.YtafjbebbmfihaaaDoor.P
