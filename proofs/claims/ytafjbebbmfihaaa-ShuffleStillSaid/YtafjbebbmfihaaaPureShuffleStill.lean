/- ferrulelaw20.ShuffleStill answers true: each length looked through by the kernel; no condition. -/
import Derived.Test.YtafjbebbmfihaaaGBits
import Derived.Test.YtafjbebbmfihaaaPx13
namespace Go.Proofs.Ytafjbebbmfihaaa.Pure
open Go.RowKit Go.Proofs.Ytafjbebbmfihaaa.P Go.Proofs.YtafjbebbmfihaaaW.PrintWords Go.Proofs.YtafjbebbmfihaaaW.PrintLast
set_option linter.unusedVariables false

set_option maxRecDepth 100000 in
theorem still1 : ∀ b : Nat, b < 1 → ferrulelaw20_ShuffleStill.l0 60 1 (b : Int) [] [] 0 = some true := by decide +kernel
set_option maxRecDepth 100000 in
theorem still2 : ∀ b : Nat, b < 2 → ferrulelaw20_ShuffleStill.l0 60 2 (b : Int) [] [] 0 = some true := by decide +kernel
set_option maxRecDepth 100000 in
theorem still3 : ∀ b : Nat, b < 3 → ferrulelaw20_ShuffleStill.l0 60 3 (b : Int) [] [] 0 = some true := by decide +kernel
set_option maxRecDepth 100000 in
theorem still4 : ∀ b : Nat, b < 4 → ferrulelaw20_ShuffleStill.l0 60 4 (b : Int) [] [] 0 = some true := by decide +kernel
set_option maxRecDepth 100000 in
theorem still5 : ∀ b : Nat, b < 5 → ferrulelaw20_ShuffleStill.l0 60 5 (b : Int) [] [] 0 = some true := by decide +kernel
set_option maxRecDepth 100000 in
theorem still6 : ∀ b : Nat, b < 6 → ferrulelaw20_ShuffleStill.l0 60 6 (b : Int) [] [] 0 = some true := by decide +kernel
set_option maxRecDepth 100000 in
theorem still7 : ∀ b : Nat, b < 7 → ferrulelaw20_ShuffleStill.l0 60 7 (b : Int) [] [] 0 = some true := by decide +kernel
set_option maxRecDepth 100000 in
theorem still8 : ∀ b : Nat, b < 8 → ferrulelaw20_ShuffleStill.l0 60 8 (b : Int) [] [] 0 = some true := by decide +kernel
set_option maxRecDepth 100000 in
theorem still9 : ∀ b : Nat, b < 9 → ferrulelaw20_ShuffleStill.l0 60 9 (b : Int) [] [] 0 = some true := by decide +kernel
set_option maxRecDepth 100000 in
theorem still10 : ∀ b : Nat, b < 10 → ferrulelaw20_ShuffleStill.l0 60 10 (b : Int) [] [] 0 = some true := by decide +kernel
set_option maxRecDepth 100000 in
theorem still11 : ∀ b : Nat, b < 11 → ferrulelaw20_ShuffleStill.l0 60 11 (b : Int) [] [] 0 = some true := by decide +kernel
set_option maxRecDepth 100000 in
theorem still12 : ∀ b : Nat, b < 12 → ferrulelaw20_ShuffleStill.l0 60 12 (b : Int) [] [] 0 = some true := by decide +kernel
set_option maxRecDepth 100000 in
theorem still13 : ∀ b : Nat, b < 13 → ferrulelaw20_ShuffleStill.l0 60 13 (b : Int) [] [] 0 = some true := by decide +kernel
set_option maxRecDepth 100000 in
theorem still14 : ∀ b : Nat, b < 14 → ferrulelaw20_ShuffleStill.l0 60 14 (b : Int) [] [] 0 = some true := by decide +kernel
set_option maxRecDepth 100000 in
theorem still15 : ∀ b : Nat, b < 15 → ferrulelaw20_ShuffleStill.l0 60 15 (b : Int) [] [] 0 = some true := by decide +kernel
set_option maxRecDepth 100000 in
theorem still16 : ∀ b : Nat, b < 16 → ferrulelaw20_ShuffleStill.l0 60 16 (b : Int) [] [] 0 = some true := by decide +kernel
theorem still_all (N b : Nat) (h1 : 1 ≤ N) (h16 : N ≤ 16) (hb : b < N) : ferrulelaw20_ShuffleStill.l0 60 (N : Int) (b : Int) [] [] 0 = some true := by
  have h : N = 1 ∨ N = 2 ∨ N = 3 ∨ N = 4 ∨ N = 5 ∨ N = 6 ∨ N = 7 ∨ N = 8 ∨ N = 9 ∨ N = 10 ∨ N = 11 ∨ N = 12 ∨ N = 13 ∨ N = 14 ∨ N = 15 ∨ N = 16 := by omega
  rcases h with rfl | rfl | rfl | rfl | rfl | rfl | rfl | rfl | rfl | rfl | rfl | rfl | rfl | rfl | rfl | rfl
  · exact still1 b hb
  · exact still2 b hb
  · exact still3 b hb
  · exact still4 b hb
  · exact still5 b hb
  · exact still6 b hb
  · exact still7 b hb
  · exact still8 b hb
  · exact still9 b hb
  · exact still10 b hb
  · exact still11 b hb
  · exact still12 b hb
  · exact still13 b hb
  · exact still14 b hb
  · exact still15 b hb
  · exact still16 b hb
theorem rest_still (x n : Int) (h0 : 0 < n) (h1 : n ≤ 18) : 0 ≤ Int.tmod (wrap64 (Int.tmod x n + n)) n ∧ Int.tmod (wrap64 (Int.tmod x n + n)) n < n := by
  have a := Int.tmod_lt_of_pos x h0
  have b := Int.lt_tmod_of_pos x h0
  rw [w64 (by omega) (by omega)]
  exact ⟨Int.tmod_nonneg n (by omega), Int.tmod_lt_of_pos _ h0⟩
theorem ShuffleStill : ferrulelaw20_ShuffleStill.Pure := by
  intro a0 a1 _ _
  refine ⟨60, ?_⟩
  unfold ferrulelaw20_ShuffleStill.f
  obtain ⟨N, hN, h1, h16⟩ : ∃ N : Nat, wrap64 (1 + (Go.bits .and .i64 a0 15)) = (N : Int) ∧ 1 ≤ N ∧ N ≤ 16 := by
    rw [i64_and15, w64 (by omega) (by omega)]
    exact ⟨(1 + a0 % 16).toNat, by omega, by omega, by omega⟩
  rw [hN, if_neg (by omega)]
  obtain ⟨p0, p1⟩ := rest_still a1 (N : Int) (by omega) (by omega)
  generalize Int.tmod (wrap64 (Int.tmod a1 (N : Int) + (N : Int))) (N : Int) = x at p0 p1 ⊢
  obtain ⟨b, rfl⟩ : ∃ b : Nat, x = (b : Int) := ⟨x.toNat, by omega⟩
  exact still_all N b h1 h16 (by omega)
end Go.Proofs.Ytafjbebbmfihaaa.Pure
