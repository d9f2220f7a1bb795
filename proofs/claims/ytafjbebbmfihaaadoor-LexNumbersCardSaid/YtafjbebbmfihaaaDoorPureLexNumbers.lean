/- LexNumbers: a number's digits, and its type's name behind them, are that number and type; no condition. -/
import Derived.Test.YtafjbebbmfihaaaDoorPx35
import Derived.Test.YtafjbebbmfihaaaDoorLNum
namespace Go.Proofs.YtafjbebbmfihaaaDoor.Pure
open Go.RowKit Go.Proofs.YtafjbebbmfihaaaDoor.P Go.Proofs.YtafjbebbmfihaaaDoorW.PrintWords Go.Proofs.YtafjbebbmfihaaaDoorW.PrintLast
set_option linter.unusedVariables false
set_option linter.unusedSimpArgs false
/-- The digits of a number. -/
def decF : Nat → Nat → List UInt8
  | 0, _ => []
  | d + 1, v => if v < 10 then [UInt8.ofNat (48 + v)] else decF d (v / 10) ++ [UInt8.ofNat (48 + v % 10)]
theorem dgt (v : Nat) (h : v < 10) : isDg (UInt8.ofNat (48 + v)) = true ∧ (UInt8.ofNat (48 + v)).toNat = 48 + v := by
  have : ∀ v : Fin 10, isDg (UInt8.ofNat (48 + v.val)) = true ∧ (UInt8.ofNat (48 + v.val)).toNat = 48 + v.val := by decide
  exact this ⟨v, h⟩
theorem decF_all : ∀ (d v : Nat), ∀ c ∈ decF d v, isDg c = true
  | 0, _, c, h => by cases h
  | d + 1, v, c, h => by
    rw [decF] at h
    split at h
    · rename_i hv
      rw [List.mem_singleton.1 h]
      exact (dgt v hv).1
    · rcases List.mem_append.1 h with h | h
      · exact decF_all d _ c h
      · rw [List.mem_singleton.1 h]
        exact (dgt (v % 10) (by omega)).1
theorem decF_len : ∀ (d v : Nat), (decF d v).length ≤ d
  | 0, _ => Nat.le_refl _
  | d + 1, v => by
    rw [decF]
    split
    · simp
    · have := decF_len d (v / 10)
      rw [List.length_append, List.length_singleton]
      omega
theorem decF_val : ∀ (d v : Nat), v < 10 ^ d → 0 < (decF d v).length ∨ d = 0
  | 0, _, _ => Or.inr rfl
  | d + 1, v, h => by
    left
    rw [decF]
    split
    · simp
    · rw [List.length_append, List.length_singleton]; omega
theorem valL_decF : ∀ (d v : Nat), v < 10 ^ d → valL (decF d v) = v
  | 0, v, h => by
    have : v = 0 := by simpa using h
    subst this
    rfl
  | d + 1, v, h => by
    rw [decF]
    split
    · rename_i hv
      show 0 * 10 + ((UInt8.ofNat (48 + v)).toNat - 48) = v
      rw [(dgt v hv).2]
      omega
    · rw [valL_snoc, valL_decF d (v / 10) (by rw [Nat.pow_succ] at h; omega), (dgt (v % 10) (by omega)).2]
      omega
/-- No nought stands ahead, but at nought itself. -/
theorem decF_head : ∀ (d v : Nat), v < 10 ^ d → 1 ≤ v → (decF d v).head? ≠ some 48
  | 0, v, h, h1 => by simp [decF]
  | d + 1, v, h, h1 => by
    rw [decF]
    split
    · rename_i hv
      rw [List.head?_cons]
      intro e
      injection e with e
      have := congrArg UInt8.toNat e
      rw [(dgt v hv).2] at this
      have h48 : (48 : UInt8).toNat = 48 := rfl
      omega
    · have hd : v / 10 < 10 ^ d := by rw [Nat.pow_succ] at h; omega
      have ih := decF_head d (v / 10) hd (by omega)
      have hl := decF_val d (v / 10) hd
      cases hx : decF d (v / 10) with
      | nil =>
        rw [hx] at hl
        rcases hl with hl | hl
        · simp at hl
        · subst hl
          simp at hd
          omega
      | cons c t =>
        rw [hx] at ih
        simpa using ih
theorem takeWhile_all {α : Type} (p : α → Bool) (l k : List α) (h : ∀ c ∈ l, p c = true) (hk : ∀ c ∈ k.head?, p c = false) : (l ++ k).takeWhile p = l ∧ (l ++ k).dropWhile p = k := by
  induction l with
  | nil =>
    cases k with
    | nil => exact ⟨rfl, rfl⟩
    | cons c t =>
      have hc := hk c rfl
      exact ⟨List.takeWhile_cons_of_neg (by simp [hc]), List.dropWhile_cons_of_neg (by simp [hc])⟩
  | cons c t ih =>
    have hc := h c List.mem_cons_self
    obtain ⟨h1, h2⟩ := ih (fun x hx => h x (List.mem_cons_of_mem _ hx))
    constructor
    · rw [List.cons_append, List.takeWhile_cons_of_pos hc, h1]
    · rw [List.cons_append, List.dropWhile_cons_of_pos hc, h2]
theorem kinds_head : ∀ K ∈ kindsL, ∀ c ∈ K.head?, isDg c = false := by decide
theorem kinds_part : ∀ K ∈ kindsL, ∀ c ∈ K, isPt c = true := by decide
theorem dg_pt (c : UInt8) (h : isDg c = true) : isPt c = true := by unfold isPt; rw [h, Bool.or_true]
section
variable (n : Nat) (hn : n < 4294967296) (K : List UInt8) (hK : K ∈ kindsL)
include hn hK
theorem num_of_digits : numOk (decF 10 n ++ K) = true ∧ numP (decF 10 n ++ K) = ((n : Int), ⟨K.toArray⟩, 0) := by
  have hp : n < 10 ^ 10 := by omega
  have ha := takeWhile_all isDg (decF 10 n) K (decF_all 10 n) (kinds_head K hK)
  have hl := decF_len 10 n
  have hv := valL_decF 10 n hp
  have h0 : 0 < (decF 10 n).length := by
    rcases decF_val 10 n hp with h | h
    · exact h
    · omega
  have hok : numOk (decF 10 n ++ K) = true := by
    unfold numOk
    rw [ha.1, ha.2, hv, decide_eq_true h0, decide_eq_true hl, decide_eq_true hK, decide_eq_true (show n ≤ 4294967295 by omega)]
    have hh : (decide (1 < (decF 10 n).length) && decide ((decF 10 n ++ K).head? = some 48)) = false := by
      by_cases h1 : 1 ≤ n
      · have := decF_head 10 n hp h1
        have e : (decF 10 n ++ K).head? = (decF 10 n).head? := by
          cases hx : decF 10 n with
          | nil => rw [hx] at h0; cases h0
          | cons c t => rfl
        rw [e, decide_eq_false this, Bool.and_false]
      · have : n = 0 := by omega
        subst this
        rfl
    rw [hh]
    rfl
  refine ⟨hok, ?_⟩
  unfold numP
  rw [if_pos hok, ha.1, ha.2, hv]
theorem num_nought : numP (48 :: (decF 10 n ++ K)) = (0, ⟨#[]⟩, 21) := by
  have hp : n < 10 ^ 10 := by omega
  have ha := takeWhile_all isDg (decF 10 n) K (decF_all 10 n) (kinds_head K hK)
  have h0 : 0 < (decF 10 n).length := by
    rcases decF_val 10 n hp with h | h
    · exact h
    · omega
  have e : (48 :: (decF 10 n ++ K)).takeWhile isDg = 48 :: decF 10 n := by
    rw [List.takeWhile_cons_of_pos (by decide), ha.1]
  unfold numP
  rw [if_neg]
  unfold numOk
  rw [e, List.head?_cons, List.length_cons, decide_eq_true (show 1 < (decF 10 n).length + 1 by omega), decide_eq_true (show some (48 : UInt8) = some 48 from rfl)]
  simp
theorem lex_of_digits (s : ByteArray) (hs : s.data.toList = decF 10 n ++ K) (hsz : s.size ≤ 100) : ∃ t, lexP s = ([t], 0, 0) ∧ t.f0 = 2 := by
  have hp : n < 10 ^ 10 := by omega
  have h0 : 0 < (decF 10 n).length := by
    rcases decF_val 10 n hp with h | h
    · exact h
    · omega
  have hall : ∀ c ∈ decF 10 n ++ K, isPt c = true := by
    intro c hc
    rcases List.mem_append.1 hc with h | h
    · exact dg_pt c (decF_all 10 n c h)
    · exact kinds_part K hK c h
  have hw : (decF 10 n ++ K).takeWhile isPt = decF 10 n ++ K := by
    have := (takeWhile_all isPt (decF 10 n ++ K) [] hall (by simp)).1
    rw [List.append_nil] at this
    exact this
  obtain ⟨hok, _⟩ := num_of_digits n hn K hK
  have hhd : ∃ c t, decF 10 n ++ K = c :: t ∧ isDg c = true := by
    cases hx : decF 10 n with
    | nil => rw [hx] at h0; cases h0
    | cons c t => exact ⟨c, t ++ K, rfl, decF_all 10 n c (by rw [hx]; exact List.mem_cons_self)⟩
  obtain ⟨c, t, hct, hdg⟩ := hhd
  have hr := dg_range c hdg
  have hsk : skipG false (decF 10 n ++ K) = 0 := by
    rw [hct, skipG_f]
    have hb : isBl c = false := by
      have := byte_all (P := fun c => isDg c = true → isBl c = false) (by decide +kernel) c
      exact this hdg
    rw [if_neg (by simp [hb]), if_neg]
    rintro ⟨rfl, _⟩
    exact absurd hdg (by decide)
  have htk : tokL (decF 10 n ++ K) = .ok (2, (decF 10 n ++ K).length) := by
    unfold tokL
    have hne : ¬ (decF 10 n ++ K).length = 0 := by rw [List.length_append]; omega
    have hhd2 : (decF 10 n ++ K).head?.any isDg = true := by rw [hct]; exact hdg
    rw [hw, if_neg hne, if_pos hhd2, if_pos hok]
  have hl : lexA (decF 10 n ++ K) 0 = .ok [tokOf 2 (decF 10 n ++ K) 0] := by
    rw [lexA_tok 0 (l := decF 10 n ++ K) (kind := 2) (n := (decF 10 n ++ K).length) (by rw [hsk, List.drop_zero, hct]; simp) (by rw [hsk]; exact htk), hsk]
    simp only [List.drop_zero, Nat.add_zero]
    rw [List.drop_length, lexA_done (l := []) _ rfl, List.take_length]
  refine ⟨tokOf 2 (decF 10 n ++ K) 0, ?_, rfl⟩
  rw [lexP_eq s (by omega), hs, hl]
  rfl
end
theorem bapp (a b : ByteArray) : (a ++ b).data.toList = a.data.toList ++ b.data.toList := by
  rw [ByteArray.data_append, Array.toList_append]
theorem bsize (a : ByteArray) : a.data.toList.length = a.size := Array.length_toList
theorem dB_is (v : Nat) : (strOfNums [((48 + Int.tmod (v : Int) 10) % 4294967296) % 256]).data.toList = [UInt8.ofNat (48 + v % 10)] := by
  have e : ((48 + Int.tmod (v : Int) 10) % 4294967296) % 256 = ((48 + v % 10 : Nat) : Int) := by
    rw [Int.tmod_eq_emod_of_nonneg (by omega)]
    omega
  rw [e]
  show ([((48 + v % 10 : Nat) : Int)].map fun n => UInt8.ofNat n.toNat) = _
  simp only [List.map_cons, List.map_nil, Int.toNat_natCast]
theorem nums_fin (n : Nat) (hn : n < 4294967296) (x6 S : ByteArray) (hK : x6.data.toList ∈ kindsL) (hS : S.data.toList = decF 10 n) :
    ∃ K0, ∀ j, K0 ≤ j → lex_Number.f j (S ++ x6) = some ((n : Int), x6, 0) ∧ lex_Number.f j ((⟨#[48]⟩ : ByteArray) ++ S ++ x6) = some (0, ⟨#[]⟩, 21) ∧ ∃ t, lex_Lex.f j (S ++ x6) = some ([t], 0, 0) ∧ t.f0 = 2 := by
  have hl := decF_len 10 n
  have hk : x6.data.toList.length ≤ 3 := by
    have : ∀ K ∈ kindsL, K.length ≤ 3 := by decide
    exact this _ hK
  have h1 : (S ++ x6).data.toList = decF 10 n ++ x6.data.toList := by rw [bapp, hS]
  have h2 : ((⟨#[48]⟩ : ByteArray) ++ S ++ x6).data.toList = 48 :: (decF 10 n ++ x6.data.toList) := by
    rw [bapp, bapp, hS]
    rfl
  have z1 : (S ++ x6).size ≤ 100 := by rw [← bsize, h1, List.length_append]; omega
  have z2 : ((⟨#[48]⟩ : ByteArray) ++ S ++ x6).size ≤ 100 := by rw [← bsize, h2, List.length_cons, List.length_append]; omega
  obtain ⟨K1, t1⟩ := num_tot (S ++ x6) (by omega)
  obtain ⟨K2, t2⟩ := num_tot ((⟨#[48]⟩ : ByteArray) ++ S ++ x6) (by omega)
  rw [h1, (num_of_digits n hn _ hK).2] at t1
  rw [h2, num_nought n hn _ hK] at t2
  obtain ⟨t, ht, ht2⟩ := lex_of_digits n hn _ hK (S ++ x6) h1 z1
  refine ⟨K1 + K2, fun j hj => ⟨t1 j (by omega), t2 j (by omega), t, ?_, ht2⟩⟩
  unfold lex_Lex.f
  rw [ht]
theorem nums_l0 (n : Nat) (hn : n < 4294967296) (x6 : ByteArray) (hK : x6.data.toList ∈ kindsL) : ∀ (d v : Nat) (acc : ByteArray), v < 10 ^ (d + 1) → v < 4294967296 → acc.size + d + 1 ≤ 20 → decF (d + 1) v ++ acc.data.toList = decF 10 n →
    Tot (fun k => ferrulelaw02_LexNumbers.l0 k (n : Int) x6 acc (v : Int)) true := by
  have hx6 : x6.size ≤ 3 := by
    have : ∀ K ∈ kindsL, K.length ≤ 3 := by decide
    have := this _ hK
    rw [bsize] at this
    exact this
  intro d
  induction d with
  | zero =>
    intro v acc hv hv2 hz h
    have hlt : v < 10 := by simpa using hv
    have hd := dB_is v
    generalize hD : strOfNums [((48 + Int.tmod (v : Int) 10) % 4294967296) % 256] = D at hd
    have hD1 : D.size = 1 := by rw [← bsize, hd]; rfl
    have hS : (D ++ acc).data.toList = decF 10 n := by
      rw [bapp, hd, ← h, decF, if_pos hlt, Nat.mod_eq_of_lt hlt]
    have hSz : (D ++ acc).size = 1 + acc.size := by rw [← bsize, bapp, List.length_append, bsize, bsize, hD1]
    obtain ⟨K0, hK0⟩ := nums_fin n hn x6 (D ++ acc) hK hS
    refine ⟨K0 + 1, fun k hk => ?_⟩
    obtain ⟨j, rfl⟩ : ∃ j, k = j + 1 := ⟨k - 1, by omega⟩
    obtain ⟨e1, e2, t, e3, e4⟩ := hK0 j (by omega)
    have z3 : ((⟨#[48]⟩ : ByteArray) ++ (D ++ acc)).size = 1 + (1 + acc.size) := by rw [ByteArray.size_append, hSz]; rfl
    have hw : wrap64 (n : Int) = (n : Int) := by unfold wrap64; omega
    show ferrulelaw02_LexNumbers.l0 (j + 1) (n : Int) x6 acc (v : Int) = some true
    rw [ferrulelaw02_LexNumbers.l0, Option.bind_some, hD, if_pos (by omega), if_pos (by omega), if_pos (by omega), e1, Option.bind_some, if_pos (by omega), if_pos (by omega), e2, Option.bind_some, e3, Option.bind_some, hw, if_pos rfl, if_pos rfl, if_pos rfl, if_pos rfl, if_pos rfl, if_pos (show ((([t] : List S39).length : Nat) : Int) = 1 from rfl), if_pos (show (0 : Int) < ((([t] : List S39).length : Nat) : Int) from Int.one_pos)]
    have : (rd_T39 [t] 0) = t := rfl
    show some ((rd_T39 [t] 0).f0 == 2) = some true
    rw [this, e4]
    rfl
  | succ d ih =>
    intro v acc hv hv2 hz h
    by_cases hlt : v < 10
    · -- the loop ends ahead of its time: as in the case above
      have h2 : decF 1 v ++ acc.data.toList = decF 10 n := by
        rw [← h, decF, if_pos hlt, decF, if_pos hlt]
      have hd := dB_is v
      generalize hD : strOfNums [((48 + Int.tmod (v : Int) 10) % 4294967296) % 256] = D at hd
      have hD1 : D.size = 1 := by rw [← bsize, hd]; rfl
      have hS : (D ++ acc).data.toList = decF 10 n := by
        rw [bapp, hd, ← h2, decF, if_pos hlt, Nat.mod_eq_of_lt hlt]
      have hSz : (D ++ acc).size = 1 + acc.size := by rw [← bsize, bapp, List.length_append, bsize, bsize, hD1]
      obtain ⟨K0, hK0⟩ := nums_fin n hn x6 (D ++ acc) hK hS
      refine ⟨K0 + 1, fun k hk => ?_⟩
      obtain ⟨j, rfl⟩ : ∃ j, k = j + 1 := ⟨k - 1, by omega⟩
      obtain ⟨e1, e2, t, e3, e4⟩ := hK0 j (by omega)
      have z3 : ((⟨#[48]⟩ : ByteArray) ++ (D ++ acc)).size = 1 + (1 + acc.size) := by rw [ByteArray.size_append, hSz]; rfl
      have hw : wrap64 (n : Int) = (n : Int) := by unfold wrap64; omega
      show ferrulelaw02_LexNumbers.l0 (j + 1) (n : Int) x6 acc (v : Int) = some true
      rw [ferrulelaw02_LexNumbers.l0, Option.bind_some, hD, if_pos (by omega), if_pos (by omega), if_pos (by omega), e1, Option.bind_some, if_pos (by omega), if_pos (by omega), e2, Option.bind_some, e3, Option.bind_some, hw, if_pos rfl, if_pos rfl, if_pos rfl, if_pos rfl, if_pos rfl, if_pos (show ((([t] : List S39).length : Nat) : Int) = 1 from rfl), if_pos (show (0 : Int) < ((([t] : List S39).length : Nat) : Int) from Int.one_pos)]
      have : (rd_T39 [t] 0) = t := rfl
      show some ((rd_T39 [t] 0).f0 == 2) = some true
      rw [this, e4]
      rfl
    · have hd := dB_is v
      generalize hD : strOfNums [((48 + Int.tmod (v : Int) 10) % 4294967296) % 256] = D at hd
      have hD1 : D.size = 1 := by rw [← bsize, hd]; rfl
      have hSz : (D ++ acc).size = 1 + acc.size := by rw [← bsize, bapp, List.length_append, bsize, bsize, hD1]
      have hq : (Int.tdiv (v : Int) 10) % 4294967296 = ((v / 10 : Nat) : Int) := by
        rw [Int.tdiv_eq_ediv_of_nonneg (by omega)]
        omega
      have h3 : decF (d + 1) (v / 10) ++ (D ++ acc).data.toList = decF 10 n := by
        have hdd : decF (d + 1 + 1) v = decF (d + 1) (v / 10) ++ [UInt8.ofNat (48 + v % 10)] := if_neg hlt
        rw [← h, hdd, bapp, hd, List.append_assoc]
      have ih2 := ih (v / 10) (D ++ acc) (by rw [Nat.pow_succ] at hv; omega) (by omega) (by omega) h3
      refine ih2.step (fun k => ?_)
      rw [ferrulelaw02_LexNumbers.l0, Option.bind_some, hD, if_pos (by omega), if_neg (by omega), hq]
theorem tmod_bd7 (a : Int) : -7 < Int.tmod a 7 ∧ Int.tmod a 7 < 7 := ⟨Int.lt_tmod_of_pos a (by decide), Int.tmod_lt_of_pos a (by decide)⟩
theorem LexNumbers : ferrulelaw02_LexNumbers.Pure := by
  intro a0 a1 w0 w1
  have hw : 0 ≤ a0 ∧ a0 ≤ 4294967295 := by
    have h := w0
    unfold Lit.wf at h
    rw [Bool.and_eq_true, decide_eq_true_iff, decide_eq_true_iff] at h
    have h1 : IntKind.u32.min = 0 := rfl
    have h2 : IntKind.u32.max = 4294967295 := by decide
    omega
  obtain ⟨n, rfl⟩ : ∃ n : Nat, a0 = (n : Int) := ⟨a0.toNat, by omega⟩
  have hb := tmod_bd7 a1
  have e0 : wrap64 ((Int.tmod a1 7) + 7) = (Int.tmod a1 7) + 7 := by unfold wrap64; omega
  have hi := tmod_bd7 (wrap64 ((Int.tmod a1 7) + 7))
  have hi0 : 0 ≤ Int.tmod (wrap64 ((Int.tmod a1 7) + 7)) 7 := Int.tmod_nonneg _ (by omega)
  obtain ⟨i, hi2⟩ : ∃ i : Nat, Int.tmod (wrap64 ((Int.tmod a1 7) + 7)) 7 = (i : Int) := ⟨_, (Int.toNat_of_nonneg hi0).symm⟩
  have hil : i < 7 := by omega
  have hK : ∀ i : Fin 7, (rdOf ByteArray.empty ([(⟨#[]⟩ : ByteArray), (⟨#[105, 56]⟩ : ByteArray), (⟨#[105, 49, 54]⟩ : ByteArray), (⟨#[105, 51, 50]⟩ : ByteArray), (⟨#[117, 56]⟩ : ByteArray), (⟨#[117, 49, 54]⟩ : ByteArray), (⟨#[117, 51, 50]⟩ : ByteArray)] : List ByteArray) (i.val : Int)).data.toList ∈ kindsL := by decide +kernel
  have h := nums_l0 n (by omega) _ (hK ⟨i, hil⟩) 9 n (⟨#[]⟩ : ByteArray) (by omega) (by omega) (by decide) (by simp)
  obtain ⟨K, hk⟩ := h
  refine ⟨K, ?_⟩
  unfold ferrulelaw02_LexNumbers.f
  rw [hi2, Option.bind_some, if_pos (by omega), if_pos (by show (i : Int) < 7; omega)]
  exact hk K (Nat.le_refl _)
end Go.Proofs.YtafjbebbmfihaaaDoor.Pure
