/- LexParts: each token by itself is it; between two tokens are blanks alone, and their texts are the text's; no condition. -/
import Derived.Test.YtafjbebbmfihaaaDoorPx34
import Derived.Test.YtafjbebbmfihaaaDoorLParts
import Derived.Test.YtafjbebbmfihaaaDoorLRest
namespace Go.Proofs.YtafjbebbmfihaaaDoor.Pure
open Go.RowKit Go.Proofs.YtafjbebbmfihaaaDoor.P Go.Proofs.YtafjbebbmfihaaaDoorW.PrintWords Go.Proofs.YtafjbebbmfihaaaDoorW.PrintLast
set_option linter.unusedVariables false
set_option linter.unusedSimpArgs false
set_option linter.unusedSectionVars false
theorem lex_is (k : Nat) (s : ByteArray) (r : List S39 × Int × Int) (h : lexP s = r) : lex_Lex.f k s = some r := by
  unfold lex_Lex.f
  rw [h]
theorem lexP_none (x : ByteArray) (hx : x.size ≤ 65536) (h : skipG false x.data.toList = x.data.toList.length) : lexP x = ([], 0, 0) := by
  rw [lexP_eq x hx, lexA_done 0 (by rw [h, List.drop_length])]
  rfl
section
variable (s : ByteArray) (hs : s.size ≤ 3000)
include hs
theorem parts_end (k : Nat) (ts : List S39) (E : Nat) (hE : E ≤ s.size) (h : skipG false (rest_ s E) = (rest_ s E).length) : ferrulelaw02_LexParts.l0 (k + 1) s ts (E : Int) (ts.length : Int) = some true := by
  have hl : lexP (s.extract E s.size) = ([], 0, 0) := lexP_none _ (by rw [ByteArray.size_extract]; omega) (by rw [extract_rest]; exact h)
  have h1 : ¬ (ts.length : Int) < (ts.length : Int) := by omega
  have h2 : (0 : Int) ≤ (E : Int) := by omega
  have h3 : (E : Int) ≤ (s.size : Int) := by omega
  rw [ferrulelaw02_LexParts.l0, if_neg h1, if_pos h2, if_pos h3, Int.toNat_natCast, lex_is k _ _ hl, Option.bind_some, if_pos rfl]
  rfl
theorem parts_tok (k i : Nat) (ts : List S39) (E P n : Nat) (kind : Int) (txt : ByteArray) (hi : i < ts.length) (hr : rd_T39 ts (i : Int) = ⟨kind, txt, (P : Int)⟩) (hEP : E ≤ P) (hn : txt.size = n) (hn0 : 0 < n) (hPn : P + n ≤ s.size)
    (hx : (s.extract P (P + n)).toList = txt.toList) : ferrulelaw02_LexParts.l0 (k + 1) s ts (E : Int) (i : Int) = ferrulelaw02_LexParts.j3 k s ts (E : Int) (i : Int) false kind txt (P : Int) := by
  have e : wrap64 ((P : Int) + (txt.size : Int)) = ((P + n : Nat) : Int) := by unfold wrap64; omega
  have h1 : (i : Int) < (ts.length : Int) := by omega
  have h2 : (0 : Int) ≤ (i : Int) := by omega
  have h3 : ¬ (P : Int) < (E : Int) := by omega
  have h4 : ¬ ((P + n : Nat) : Int) > (s.size : Int) := by omega
  have h5 : ¬ (txt.size : Int) = 0 := by omega
  have h6 : (0 : Int) ≤ (P : Int) := by omega
  have h7 : (P : Int) ≤ ((P + n : Nat) : Int) := by omega
  have h8 : ((P + n : Nat) : Int) ≤ (s.size : Int) := by omega
  have h9 : ((s.extract P (P + n)).toList != txt.toList) = false := by rw [hx]; simp
  rw [ferrulelaw02_LexParts.l0, if_pos h1, if_pos h2, hr]
  simp only
  rw [if_neg h3, e, if_neg h4, if_neg h5, if_pos h6, if_pos h7, if_pos h8, Int.toNat_natCast, Int.toNat_natCast, h9]
theorem parts_j3 (k i : Nat) (ts : List S39) (E P : Nat) (kind : Int) (txt : ByteArray) (h : lexP txt = ([⟨kind, txt, 0⟩], 0, 0)) :
    ferrulelaw02_LexParts.j3 (k + 1) s ts (E : Int) (i : Int) false kind txt (P : Int) = ferrulelaw02_LexParts.j4 k s ts (E : Int) (i : Int) false kind txt (P : Int) := by
  have h1 : ((([(⟨kind, txt, 0⟩ : S39)] : List S39).length : Nat) : Int) = 1 := rfl
  have h0 : (0 : Int) < ((([(⟨kind, txt, 0⟩ : S39)] : List S39).length : Nat) : Int) := by rw [h1]; decide
  have hr : rd_T39 ([(⟨kind, txt, 0⟩ : S39)] : List S39) 0 = ⟨kind, txt, 0⟩ := rfl
  have h9 : (txt.toList != txt.toList) = false := by simp
  rw [ferrulelaw02_LexParts.j3, if_neg (by decide), lex_is k _ _ h, Option.bind_some, if_pos rfl, if_pos h1, if_pos h0, hr]
  simp only [if_true, h9]
theorem parts_j4 (k i : Nat) (ts : List S39) (E P n : Nat) (kind : Int) (txt : ByteArray) (hEP : E ≤ P) (hP : P + n ≤ s.size) (hn : txt.size = n) (hi : i < 1000000) (h : lexP (s.extract E P) = ([], 0, 0)) :
    ferrulelaw02_LexParts.j4 (k + 1) s ts (E : Int) (i : Int) false kind txt (P : Int) = ferrulelaw02_LexParts.l0 k s ts ((P + n : Nat) : Int) ((i + 1 : Nat) : Int) := by
  have e : wrap64 ((P : Int) + (txt.size : Int)) = ((P + n : Nat) : Int) := by unfold wrap64; omega
  have e2 : wrap64 ((i : Int) + 1) = ((i + 1 : Nat) : Int) := by unfold wrap64; omega
  have h2 : (0 : Int) ≤ (E : Int) := by omega
  have h3 : (E : Int) ≤ (P : Int) := by omega
  have h4 : (P : Int) ≤ (s.size : Int) := by omega
  rw [ferrulelaw02_LexParts.j4, if_neg (by decide), if_pos h2, if_pos h3, if_pos h4, Int.toNat_natCast, Int.toNat_natCast, lex_is k _ _ h, Option.bind_some, if_pos rfl, if_pos (show ((([] : List S39).length : Nat) : Int) = 0 from rfl), e, e2]
theorem parts_l0 (ts : List S39) (ht : ts.length ≤ 3000) : ∀ (us : List S39) (i E : Nat), us = ts.drop i → i ≤ ts.length → E ≤ s.size → PartsL us (rest_ s E) E → Tot (fun k => ferrulelaw02_LexParts.l0 k s ts (E : Int) (i : Int)) true := by
  intro us
  induction us with
  | nil =>
    intro i E hu hi hE hp
    have : i = ts.length := by
      have := congrArg List.length hu
      rw [List.length_nil, List.length_drop] at this
      omega
    subst this
    exact (Tot.pure true).step (fun k => parts_end s hs k ts E hE hp)
  | cons t us ih =>
    intro i E hu hi hE hp
    obtain ⟨kind, n, htk, htok, hne, hp2⟩ := hp
    have hil : i < ts.length := by
      have := congrArg List.length hu
      rw [List.length_cons, List.length_drop] at this
      omega
    have hu2 : us = ts.drop (i + 1) := by
      have h1 : ts.drop i = ts[i] :: ts.drop (i + 1) := List.drop_eq_getElem_cons hil
      rw [h1] at hu
      exact (List.cons.inj hu).2
    have hti : ts[i] = t := by
      have h1 : ts.drop i = ts[i] :: ts.drop (i + 1) := List.drop_eq_getElem_cons hil
      rw [h1] at hu
      exact (List.cons.inj hu).1.symm
    have hn := tokL_len htok
    have hg := skipG_le false (rest_ s E)
    obtain ⟨g, hgd⟩ : ∃ g, g = skipG false (rest_ s E) := ⟨_, rfl⟩
    rw [← hgd] at htk htok hne hp2 hn hg
    rw [rest_len] at hg
    rw [rest_drop] at htk htok hp2 hn
    rw [rest_drop] at hp2
    rw [rest_len] at hn
    have hx : (s.extract (E + g) (E + g + n)).data.toList = (rest_ s (E + g)).take n := by rw [extract_list, Nat.add_sub_cancel_left]
    have htxt : (⟨((rest_ s (E + g)).take n).toArray⟩ : ByteArray) = s.extract (E + g) (E + g + n) := (bytes_ext hx).symm
    have hsz : (s.extract (E + g) (E + g + n)).size = n := by rw [ByteArray.size_extract]; omega
    have hr : rd_T39 ts (i : Int) = ⟨kind, s.extract (E + g) (E + g + n), ((E + g : Nat) : Int)⟩ := by
      unfold rd_T39
      rw [Int.toNat_natCast, List.getD_eq_getElem?_getD, List.getElem?_eq_getElem hil, Option.getD_some, hti, htk, ← htxt]
      rfl
    have hsk0 : skipG false (rest_ s (E + g)) = 0 := by
      rw [← rest_drop, hgd]
      exact skipG_idem false _
    have hal := lexA_alone 0 hsk0 htok
    have hone : lexP (s.extract (E + g) (E + g + n)) = ([⟨kind, s.extract (E + g) (E + g + n), 0⟩], 0, 0) := by
      rw [lexP_eq _ (by omega), hx, hal]
      show ([tokOf kind ((rest_ s (E + g)).take n) 0], (0 : Int), (0 : Int)) = _
      unfold tokOf
      rw [htxt]
      rfl
    have hgap : lexP (s.extract E (E + g)) = ([], 0, 0) := by
      have hx2 : (s.extract E (E + g)).data.toList = (rest_ s E).take g := by rw [extract_list, Nat.add_sub_cancel_left]
      rw [lexP_eq _ (by rw [ByteArray.size_extract]; omega), hx2, lexA_gap (rest_ s E) 0 g hgd]
      rfl
    have ih2 := ih (i + 1) (E + g + n) hu2 (by omega) (by omega) hp2
    have s1 : Tot (fun k => ferrulelaw02_LexParts.j4 k s ts (E : Int) (i : Int) false kind (s.extract (E + g) (E + g + n)) ((E + g : Nat) : Int)) true := ih2.step (fun k => parts_j4 s hs k i ts E (E + g) n kind _ (by omega) (by omega) hsz (by omega) hgap)
    have s2 : Tot (fun k => ferrulelaw02_LexParts.j3 k s ts (E : Int) (i : Int) false kind (s.extract (E + g) (E + g + n)) ((E + g : Nat) : Int)) true := s1.step (fun k => parts_j3 s hs k i ts E (E + g) kind _ hone)
    exact s2.step (fun k => parts_tok s hs k i ts E (E + g) n kind _ hil hr (by omega) hsz hn.1 (by omega) rfl)
theorem parts_j1 : Tot (fun k => ferrulelaw02_LexParts.j1 k s false) true := by
  cases hx : lexA s.data.toList 0 with
  | error q =>
    obtain ⟨p, e⟩ := q
    have hl : lexP s = ([], (p : Int), e) := by rw [lexP_eq s (by omega), hx]; rfl
    have he := lexA_error _ _ _ _ _ (Nat.le_refl _) hx
    rw [show s.data.toList.length = s.size from Array.length_toList] at he
    refine (Tot.pure true).step (fun k => ?_)
    have h1 : ¬ e = 0 := by rcases he.2.2 with h | h <;> rw [h] <;> decide
    have h2 : (p : Int) ≥ 0 := by omega
    rw [ferrulelaw02_LexParts.j1, if_neg (by decide), lex_is k _ _ hl, Option.bind_some, if_neg h1, if_pos (show ((([] : List S39).length : Nat) : Int) = 0 from rfl), if_pos h2]
    exact congrArg some (decide_eq_true (by have := he.2.1; show (p : Int) < (s.size : Int); omega))
  | ok ts =>
    have hl : lexP s = (ts, 0, 0) := by rw [lexP_eq s (by omega), hx]; rfl
    have hp := lexA_parts ts _ 0 hx
    have hlen := lexA_len2 _ _ _ _ (Nat.le_refl _) hx
    rw [show s.data.toList.length = s.size from Array.length_toList] at hlen
    have h := parts_l0 s hs ts (by omega) ts 0 0 rfl (Nat.zero_le _) (Nat.zero_le _) hp
    refine h.step (fun k => ?_)
    rw [ferrulelaw02_LexParts.j1, if_neg (by decide), lex_is k _ _ hl, Option.bind_some, if_pos rfl]
    rfl
theorem parts_j0 : Tot (fun k => ferrulelaw02_LexParts.j0 k s) true := by
  have hc : (lexP (⟨#[97, 32, 60, 61, 32, 49, 50, 117, 56, 32, 47, 47, 32, 120]⟩ : ByteArray)).2.2 = 0 ∧ ((lexP (⟨#[97, 32, 60, 61, 32, 49, 50, 117, 56, 32, 47, 47, 32, 120]⟩ : ByteArray)).1.length : Int) = 3 ∧ (((rd_T39 (lexP (⟨#[97, 32, 60, 61, 32, 49, 50, 117, 56, 32, 47, 47, 32, 120]⟩ : ByteArray)).1 1).f1).toList != ([60, 61] : List UInt8)) = false := by decide +kernel
  obtain ⟨c1, c2, c3⟩ := hc
  refine (parts_j1 s hs).step (fun k => ?_)
  have c4 : 1 < ((lexP (⟨#[97, 32, 60, 61, 32, 49, 50, 117, 56, 32, 47, 47, 32, 120]⟩ : ByteArray)).1.length : Int) := by omega
  rw [ferrulelaw02_LexParts.j0, lex_is k _ _ rfl, Option.bind_some, if_pos c1, if_pos c2, if_pos c4, c3]
end
theorem LexParts : ferrulelaw02_LexParts.Pure := by
  intro a0 w0
  by_cases h : a0.size > 3000
  · obtain ⟨K, hK⟩ := parts_j0 (a0.extract 0 3000) (by rw [ByteArray.size_extract]; omega)
    refine ⟨K, ?_⟩
    have h1 : (a0.size : Int) > 3000 := by omega
    have h2 : (3000 : Int) ≤ (a0.size : Int) := by omega
    unfold ferrulelaw02_LexParts.f
    rw [if_pos h1, if_pos (by decide), if_pos h2]
    exact hK K (Nat.le_refl _)
  · obtain ⟨K, hK⟩ := parts_j0 a0 (by omega)
    refine ⟨K, ?_⟩
    have h1 : ¬ (a0.size : Int) > 3000 := by omega
    unfold ferrulelaw02_LexParts.f
    rw [if_neg h1]
    exact hK K (Nat.le_refl _)
end Go.Proofs.YtafjbebbmfihaaaDoor.Pure
