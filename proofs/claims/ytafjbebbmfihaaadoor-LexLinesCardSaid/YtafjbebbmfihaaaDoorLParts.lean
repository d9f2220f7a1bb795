/- The scanner over lists: each token by itself, the gaps between them; no condition. -/
import Derived.Test.YtafjbebbmfihaaaDoorLPure
namespace Go.Proofs.YtafjbebbmfihaaaDoor.P
set_option linter.unusedVariables false
set_option linter.unusedSimpArgs false
set_option linter.unusedSectionVars false
theorem skipG_alone (b : Bool) (l : List UInt8) : skipG b (l.take (skipG b l)) = skipG b l := by
  induction l generalizing b with
  | nil => rw [List.take_nil]
  | cons c t ih =>
    cases b with
    | true => rw [skipG_t, List.take_succ_cons, skipG_t, ih]
    | false =>
      rw [skipG_f]
      by_cases h1 : isBl c = true
      · rw [if_pos h1, List.take_succ_cons, skipG_f, if_pos h1, ih]
      · rw [if_neg h1]
        by_cases h2 : c = 47 ∧ t.head? = some 47
        · rw [if_pos h2, List.take_succ_cons, skipG_f, if_neg h1, if_pos, ih]
          refine ⟨h2.1, ?_⟩
          cases t with
          | nil => exact absurd h2.2 (by simp)
          | cons d t =>
            rw [skipG_t, List.take_succ_cons]
            exact h2.2
        · rw [if_neg h2, List.take_zero, skipG_nil]
theorem lexA_gap (l : List UInt8) (at_ : Nat) (k : Nat) (hk : k = skipG false l) : lexA (l.take k) at_ = .ok [] := by
  refine lexA_done at_ ?_
  rw [hk, skipG_alone]
  exact List.drop_eq_nil_of_le (by simp; omega)
theorem takeWhile_take_self {α : Type} (p : α → Bool) : ∀ l : List α, (l.take (l.takeWhile p).length).takeWhile p = l.takeWhile p
  | [] => rfl
  | c :: t => by
    cases h : p c with
    | true =>
      rw [List.takeWhile_cons_of_pos h, List.length_cons, List.take_succ_cons, List.takeWhile_cons_of_pos h, takeWhile_take_self p t]
    | false => rw [List.takeWhile_cons_of_neg (by simp [h])]; rfl
theorem take_takeWhile {α : Type} (p : α → Bool) : ∀ l : List α, l.take (l.takeWhile p).length = l.takeWhile p
  | [] => rfl
  | c :: t => by
    cases h : p c with
    | true => rw [List.takeWhile_cons_of_pos h, List.length_cons, List.take_succ_cons, take_takeWhile p t]
    | false => rw [List.takeWhile_cons_of_neg (by simp [h])]; rfl
theorem skip_take {l : List UInt8} (n : Nat) (h : skipG false l = 0) : skipG false (l.take n) = 0 := by
  cases l with
  | nil => rw [List.take_nil]; rfl
  | cons c t =>
    cases n with
    | zero => rfl
    | succ n =>
      rw [skipG_f] at h
      rw [List.take_succ_cons, skipG_f]
      by_cases h1 : isBl c = true
      · rw [if_pos h1] at h; cases h
      · rw [if_neg h1] at h ⊢
        by_cases h2 : c = 47 ∧ t.head? = some 47
        · rw [if_pos h2] at h; cases h
        · rw [if_neg]
          intro h3
          refine h2 ⟨h3.1, ?_⟩
          cases n with
          | zero => exact absurd h3.2 (by simp)
          | succ n =>
            cases t with
            | nil => exact absurd h3.2 (by simp)
            | cons d t => exact h3.2
theorem head_take {α : Type} {l : List α} {n : Nat} (h : 0 < n) : (l.take n).head? = l.head? := by
  cases n with
  | zero => omega
  | succ n => cases l <;> rfl
theorem take2_short {l : List UInt8} (h : l.length ≤ 1) : l.take 2 ∉ signs2 := by
  intro h2
  have h3 : ∀ x ∈ signs2, x.length = 2 := by decide
  have := h3 _ h2
  simp at this
  omega
theorem signL_alone (l : List UInt8) : signL (l.take (signL l)) = signL l := by
  by_cases h : l.take 2 ∈ signs2
  · have e : signL l = 2 := by unfold signL; rw [if_pos h]
    rw [e]
    unfold signL
    rw [if_pos (by rw [List.take_take]; exact h)]
  · by_cases h1 : ∃ c ∈ l.head?, c ∈ signs1
    · have e : signL l = 1 := by unfold signL; rw [if_neg h, if_pos h1]
      rw [e]
      unfold signL
      rw [if_neg (take2_short (by simp; omega)), if_pos (by rw [head_take (by omega)]; exact h1)]
    · have e : signL l = 0 := by unfold signL; rw [if_neg h, if_neg h1]
      rw [e]
      rfl
theorem tokL_alone {l : List UInt8} {kind : Int} {n : Nat} (h : tokL l = .ok (kind, n)) : tokL (l.take n) = .ok (kind, n) := by
  have hn := tokL_len h
  unfold tokL at h
  by_cases h0 : (l.takeWhile isPt).length = 0
  · rw [if_pos h0] at h
    by_cases h1 : signL l = 0
    · rw [if_pos h1] at h; cases h
    · rw [if_neg h1] at h
      injection h with h
      injection h with h2 h3
      subst h2
      have hz : ((l.take n).takeWhile isPt).length = 0 := by
        cases l with
        | nil => rw [List.take_nil]; rfl
        | cons c t =>
          cases n with
          | zero => rfl
          | succ n =>
            rw [List.take_succ_cons]
            cases hc : isPt c with
            | true => rw [List.takeWhile_cons_of_pos hc] at h0; cases h0
            | false => rw [List.takeWhile_cons_of_neg (by simp [hc])]; rfl
      have hs := signL_alone l
      rw [h3] at hs
      unfold tokL
      rw [if_pos hz, hs, if_neg (by omega)]
  · rw [if_neg h0] at h
    have hlen : (l.takeWhile isPt).length = n := by
      repeat' split at h
      all_goals first | (cases h; done) | (cases h; rfl)
    have hw : (l.take n).takeWhile isPt = l.takeWhile isPt := by rw [← hlen, takeWhile_take_self]
    unfold tokL
    rw [hw, if_neg h0, head_take hn.1]
    exact h
theorem lexA_alone {l : List UInt8} {kind : Int} {n : Nat} (at_ : Nat) (hs : skipG false l = 0) (h : tokL l = .ok (kind, n)) : lexA (l.take n) at_ = .ok [tokOf kind (l.take n) at_] := by
  have hn := tokL_len h
  have hs2 := skip_take n hs
  have hne : l.take n ≠ [] := by
    intro e
    have := congrArg List.length e
    rw [List.length_take, List.length_nil] at this
    omega
  have hl : (l.take n).length = n := by rw [List.length_take]; omega
  rw [lexA_tok at_ (l := l.take n) (kind := kind) (n := n) (by rw [hs2]; exact hne) (by rw [hs2]; exact tokL_alone h), hs2]
  simp only [List.drop_zero, Nat.add_zero]
  rw [List.drop_eq_nil_of_le (by omega), lexA_done (l := []) _ rfl, List.take_take, Nat.min_self]
/-- The parts of a text at a place. -/
def PartsL : List S39 → List UInt8 → Nat → Prop
  | [], l, _ => skipG false l = l.length
  | t :: ts, l, at_ => ∃ kind n, t = tokOf kind ((l.drop (skipG false l)).take n) (at_ + skipG false l) ∧ tokL (l.drop (skipG false l)) = .ok (kind, n) ∧ l.drop (skipG false l) ≠ [] ∧ PartsL ts ((l.drop (skipG false l)).drop n) (at_ + skipG false l + n)
theorem lexA_parts : ∀ (ts : List S39) (l : List UInt8) (at_ : Nat), lexA l at_ = .ok ts → PartsL ts l at_ := by
  intro ts
  induction ts with
  | nil =>
    intro l at_ h
    have hle := skipG_le false l
    by_cases hd : l.drop (skipG false l) = []
    · have := congrArg List.length hd
      simp at this
      show skipG false l = l.length
      omega
    · cases ht : tokL (l.drop (skipG false l)) with
      | error e => rw [lexA_bad at_ hd ht] at h; cases h
      | ok p =>
        obtain ⟨kind, n⟩ := p
        rw [lexA_tok at_ hd ht] at h
        cases hx : lexA ((l.drop (skipG false l)).drop n) (at_ + skipG false l + n) with
        | error e => rw [hx] at h; cases h
        | ok us => rw [hx] at h; cases h
  | cons t ts ih =>
    intro l at_ h
    by_cases hd : l.drop (skipG false l) = []
    · rw [lexA_done at_ hd] at h; cases h
    · cases ht : tokL (l.drop (skipG false l)) with
      | error e => rw [lexA_bad at_ hd ht] at h; cases h
      | ok p =>
        obtain ⟨kind, n⟩ := p
        rw [lexA_tok at_ hd ht] at h
        cases hx : lexA ((l.drop (skipG false l)).drop n) (at_ + skipG false l + n) with
        | error e => rw [hx] at h; cases h
        | ok us =>
          rw [hx] at h
          injection h with h
          injection h with h1 h2
          subst h2
          exact ⟨kind, n, h1.symm, ht, hd, ih _ _ hx⟩
theorem lexA_error : ∀ (k : Nat) (l : List UInt8) (at_ p : Nat) (e : Int), l.length ≤ k → lexA l at_ = .error (p, e) → at_ ≤ p ∧ p < at_ + l.length ∧ (e = 20 ∨ e = 21) := by
  intro k
  induction k with
  | zero =>
    intro l at_ p e hl h
    obtain rfl : l = [] := List.eq_nil_of_length_eq_zero (by omega)
    rw [lexA_done at_ rfl] at h
    cases h
  | succ k ih =>
    intro l at_ p e hl h
    have hle := skipG_le false l
    by_cases hd : l.drop (skipG false l) = []
    · rw [lexA_done at_ hd] at h; cases h
    · have hlt : skipG false l < l.length := by
        have : ¬ (l.drop (skipG false l)).length = 0 := fun h => hd (List.eq_nil_of_length_eq_zero h)
        simp at this
        omega
      cases ht : tokL (l.drop (skipG false l)) with
      | error e2 =>
        rw [lexA_bad at_ hd ht] at h
        injection h with h
        injection h with h1 h2
        refine ⟨by omega, by omega, ?_⟩
        subst h2
        unfold tokL at ht
        repeat' split at ht
        all_goals first | (injection ht with ht; omega) | cases ht
      | ok q =>
        obtain ⟨kind, n⟩ := q
        have hn := tokL_len ht
        rw [lexA_tok at_ hd ht] at h
        have hl2 : ((l.drop (skipG false l)).drop n).length = l.length - skipG false l - n := by simp; omega
        have hl3 : (l.drop (skipG false l)).length = l.length - skipG false l := by simp
        cases hx : lexA ((l.drop (skipG false l)).drop n) (at_ + skipG false l + n) with
        | error q =>
          rw [hx] at h
          injection h with h
          subst h
          have := ih _ _ _ _ (by omega) hx
          omega
        | ok us => rw [hx] at h; cases h
theorem lexA_len2 : ∀ (k : Nat) (l : List UInt8) (at_ : Nat) (ts : List S39), l.length ≤ k → lexA l at_ = .ok ts → ts.length ≤ l.length := by
  intro k
  induction k with
  | zero =>
    intro l at_ ts hl h
    obtain rfl : l = [] := List.eq_nil_of_length_eq_zero (by omega)
    rw [lexA_done at_ rfl] at h
    injection h with h
    rw [← h]
    exact Nat.le_refl _
  | succ k ih =>
    intro l at_ ts hl h
    by_cases hd : l.drop (skipG false l) = []
    · rw [lexA_done at_ hd] at h
      injection h with h
      rw [← h]
      exact Nat.zero_le _
    · cases ht : tokL (l.drop (skipG false l)) with
      | error e => rw [lexA_bad at_ hd ht] at h; cases h
      | ok p =>
        obtain ⟨kind, n⟩ := p
        have hn := tokL_len ht
        rw [lexA_tok at_ hd ht] at h
        have hl2 : ((l.drop (skipG false l)).drop n).length < l.length := by simp at hn ⊢; omega
        cases hx : lexA ((l.drop (skipG false l)).drop n) (at_ + skipG false l + n) with
        | error e => rw [hx] at h; cases h
        | ok us =>
          rw [hx] at h
          injection h with h
          have := ih _ _ _ (by omega) hx
          rw [← h, List.length_cons]
          omega
end Go.Proofs.YtafjbebbmfihaaaDoor.P
