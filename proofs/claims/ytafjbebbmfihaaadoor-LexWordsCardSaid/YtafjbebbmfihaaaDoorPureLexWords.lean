/- LexWords: a word of the language by itself is a word, with a letter more a name: looked through, a word and a letter at a time; no condition. -/
import Derived.Test.YtafjbebbmfihaaaDoorPx33
namespace Go.Proofs.YtafjbebbmfihaaaDoor.Pure
open Go.RowKit Go.Proofs.YtafjbebbmfihaaaDoor.P Go.Proofs.YtafjbebbmfihaaaDoorW.PrintWords Go.Proofs.YtafjbebbmfihaaaDoorW.PrintLast
set_option maxRecDepth 100000 in
theorem words_all : ∀ i : Fin 17, ∀ j : Fin 13, ferrulelaw02_LexWords.f 30 (i.val : Int) (j.val : Int) = some true := by decide +kernel
theorem words_eq (k : Nat) (a0 a1 b0 b1 : Int) (h0 : (Int.tmod (wrap64 ((Int.tmod a0 17) + 17)) 17) = (Int.tmod (wrap64 ((Int.tmod b0 17) + 17)) 17)) (h1 : (Int.tmod (wrap64 a1) 13) = (Int.tmod (wrap64 b1) 13)) :
    ferrulelaw02_LexWords.f k a0 a1 = ferrulelaw02_LexWords.f k b0 b1 := by
  unfold ferrulelaw02_LexWords.f
  rw [h0, h1]
theorem tmod_bd (a m : Int) (hm : 0 < m) : -m < Int.tmod a m ∧ Int.tmod a m < m := by
  have h1 := Int.tmod_lt_of_pos a hm
  have h2 := Int.lt_tmod_of_pos a hm
  exact ⟨h2, h1⟩
theorem LexWords : ferrulelaw02_LexWords.Pure := by
  intro a0 a1 w0 w1
  refine ⟨30, ?_⟩
  have hb := tmod_bd a0 17 (by decide)
  have e0 : wrap64 ((Int.tmod a0 17) + 17) = (Int.tmod a0 17) + 17 := by unfold wrap64; omega
  have hi := tmod_bd (wrap64 ((Int.tmod a0 17) + 17)) 17 (by decide)
  have hi0 : 0 ≤ Int.tmod (wrap64 ((Int.tmod a0 17) + 17)) 17 := Int.tmod_nonneg _ (by omega)
  have hw : 0 ≤ a1 ∧ a1 ≤ 255 := by
    have h := w1
    unfold Lit.wf at h
    rw [Bool.and_eq_true, decide_eq_true_iff, decide_eq_true_iff] at h
    have h1 : IntKind.u8.min = 0 := rfl
    have h2 : IntKind.u8.max = 255 := by decide
    omega
  have e1 : wrap64 a1 = a1 := by unfold wrap64; omega
  have hj := tmod_bd (wrap64 a1) 13 (by decide)
  have hj0 : 0 ≤ Int.tmod (wrap64 a1) 13 := Int.tmod_nonneg _ (by omega)
  obtain ⟨i, hi2⟩ : ∃ i : Nat, (i : Int) = Int.tmod (wrap64 ((Int.tmod a0 17) + 17)) 17 := ⟨_, Int.toNat_of_nonneg hi0⟩
  obtain ⟨j, hj2⟩ : ∃ j : Nat, (j : Int) = Int.tmod (wrap64 a1) 13 := ⟨_, Int.toNat_of_nonneg hj0⟩
  have hil : i < 17 := by omega
  have hjl : j < 13 := by omega
  rw [words_eq 30 a0 a1 (i : Int) (j : Int) ?_ ?_]
  · exact words_all ⟨i, hil⟩ ⟨j, hjl⟩
  · rw [← hi2]
    rw [Int.tmod_eq_of_lt (a := (i : Int)) (by omega) (by omega)]
    have : wrap64 ((i : Int) + 17) = (i : Int) + 17 := by unfold wrap64; omega
    rw [this, Int.tmod_eq_emod_of_nonneg (by omega)]
    omega
  · rw [← hj2]
    have : wrap64 (j : Int) = (j : Int) := by unfold wrap64; omega
    rw [this, Int.tmod_eq_of_lt (by omega) (by omega)]
end Go.Proofs.YtafjbebbmfihaaaDoor.Pure
