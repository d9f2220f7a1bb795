/- ferrulelaw11.GraphLines answers true: sixteen lengths, each looked through by the kernel; no condition. -/
import Derived.Test.YtafjbebbmfihaaaGBits
import Derived.Test.YtafjbebbmfihaaaPx14
namespace Go.Proofs.Ytafjbebbmfihaaa.Pure
open Go.RowKit Go.Proofs.Ytafjbebbmfihaaa.P Go.Proofs.YtafjbebbmfihaaaW.PrintWords Go.Proofs.YtafjbebbmfihaaaW.PrintLast
set_option linter.unusedVariables false

set_option maxRecDepth 100000 in
theorem lines3 : ∀ b : Nat, b < 3 → ∀ a : Nat, a < b + 1 → ferrulelaw11_GraphLines.j0 60 3 (a : Int) (b : Int) = some true := by decide +kernel
set_option maxRecDepth 100000 in
theorem lines4 : ∀ b : Nat, b < 4 → ∀ a : Nat, a < b + 1 → ferrulelaw11_GraphLines.j0 60 4 (a : Int) (b : Int) = some true := by decide +kernel
set_option maxRecDepth 100000 in
theorem lines5 : ∀ b : Nat, b < 5 → ∀ a : Nat, a < b + 1 → ferrulelaw11_GraphLines.j0 60 5 (a : Int) (b : Int) = some true := by decide +kernel
set_option maxRecDepth 100000 in
theorem lines6 : ∀ b : Nat, b < 6 → ∀ a : Nat, a < b + 1 → ferrulelaw11_GraphLines.j0 60 6 (a : Int) (b : Int) = some true := by decide +kernel
set_option maxRecDepth 100000 in
theorem lines7 : ∀ b : Nat, b < 7 → ∀ a : Nat, a < b + 1 → ferrulelaw11_GraphLines.j0 60 7 (a : Int) (b : Int) = some true := by decide +kernel
set_option maxRecDepth 100000 in
theorem lines8 : ∀ b : Nat, b < 8 → ∀ a : Nat, a < b + 1 → ferrulelaw11_GraphLines.j0 60 8 (a : Int) (b : Int) = some true := by decide +kernel
set_option maxRecDepth 100000 in
theorem lines9 : ∀ b : Nat, b < 9 → ∀ a : Nat, a < b + 1 → ferrulelaw11_GraphLines.j0 60 9 (a : Int) (b : Int) = some true := by decide +kernel
set_option maxRecDepth 100000 in
theorem lines10 : ∀ b : Nat, b < 10 → ∀ a : Nat, a < b + 1 → ferrulelaw11_GraphLines.j0 60 10 (a : Int) (b : Int) = some true := by decide +kernel
set_option maxRecDepth 100000 in
theorem lines11 : ∀ b : Nat, b < 11 → ∀ a : Nat, a < b + 1 → ferrulelaw11_GraphLines.j0 60 11 (a : Int) (b : Int) = some true := by decide +kernel
set_option maxRecDepth 100000 in
theorem lines12 : ∀ b : Nat, b < 12 → ∀ a : Nat, a < b + 1 → ferrulelaw11_GraphLines.j0 60 12 (a : Int) (b : Int) = some true := by decide +kernel
set_option maxRecDepth 100000 in
theorem lines13 : ∀ b : Nat, b < 13 → ∀ a : Nat, a < b + 1 → ferrulelaw11_GraphLines.j0 60 13 (a : Int) (b : Int) = some true := by decide +kernel
set_option maxRecDepth 100000 in
theorem lines14 : ∀ b : Nat, b < 14 → ∀ a : Nat, a < b + 1 → ferrulelaw11_GraphLines.j0 60 14 (a : Int) (b : Int) = some true := by decide +kernel
set_option maxRecDepth 100000 in
theorem lines15 : ∀ b : Nat, b < 15 → ∀ a : Nat, a < b + 1 → ferrulelaw11_GraphLines.j0 60 15 (a : Int) (b : Int) = some true := by decide +kernel
set_option maxRecDepth 100000 in
theorem lines16 : ∀ b : Nat, b < 16 → ∀ a : Nat, a < b + 1 → ferrulelaw11_GraphLines.j0 60 16 (a : Int) (b : Int) = some true := by decide +kernel
set_option maxRecDepth 100000 in
theorem lines17 : ∀ b : Nat, b < 17 → ∀ a : Nat, a < b + 1 → ferrulelaw11_GraphLines.j0 60 17 (a : Int) (b : Int) = some true := by decide +kernel
set_option maxRecDepth 100000 in
theorem lines18 : ∀ b : Nat, b < 18 → ∀ a : Nat, a < b + 1 → ferrulelaw11_GraphLines.j0 60 18 (a : Int) (b : Int) = some true := by decide +kernel
theorem lines_all (N a b : Nat) (h3 : 3 ≤ N) (h18 : N ≤ 18) (hb : b < N) (ha : a ≤ b) : ferrulelaw11_GraphLines.j0 60 (N : Int) (a : Int) (b : Int) = some true := by
  have h : N = 3 ∨ N = 4 ∨ N = 5 ∨ N = 6 ∨ N = 7 ∨ N = 8 ∨ N = 9 ∨ N = 10 ∨ N = 11 ∨ N = 12 ∨ N = 13 ∨ N = 14 ∨ N = 15 ∨ N = 16 ∨ N = 17 ∨ N = 18 := by omega
  rcases h with rfl | rfl | rfl | rfl | rfl | rfl | rfl | rfl | rfl | rfl | rfl | rfl | rfl | rfl | rfl | rfl
  · exact lines3 b hb a (by omega)
  · exact lines4 b hb a (by omega)
  · exact lines5 b hb a (by omega)
  · exact lines6 b hb a (by omega)
  · exact lines7 b hb a (by omega)
  · exact lines8 b hb a (by omega)
  · exact lines9 b hb a (by omega)
  · exact lines10 b hb a (by omega)
  · exact lines11 b hb a (by omega)
  · exact lines12 b hb a (by omega)
  · exact lines13 b hb a (by omega)
  · exact lines14 b hb a (by omega)
  · exact lines15 b hb a (by omega)
  · exact lines16 b hb a (by omega)
  · exact lines17 b hb a (by omega)
  · exact lines18 b hb a (by omega)
theorem rest_in (x n : Int) (h0 : 0 < n) (h1 : n ≤ 18) : 0 ≤ Int.tmod (wrap64 (Int.tmod x n + n)) n ∧ Int.tmod (wrap64 (Int.tmod x n + n)) n < n := by
  have a := Int.tmod_lt_of_pos x h0
  have b := Int.lt_tmod_of_pos x h0
  rw [w64 (by omega) (by omega)]
  exact ⟨Int.tmod_nonneg n (by omega), Int.tmod_lt_of_pos _ h0⟩
theorem GraphLines : ferrulelaw11_GraphLines.Pure := by
  intro a0 a1 a2 _ _ _
  refine ⟨60, ?_⟩
  unfold ferrulelaw11_GraphLines.f
  obtain ⟨N, hN, h3, h18⟩ : ∃ N : Nat, wrap64 (3 + (Go.bits .and .i64 a0 15)) = (N : Int) ∧ 3 ≤ N ∧ N ≤ 18 := by
    rw [i64_and15, w64 (by omega) (by omega)]
    exact ⟨(3 + a0 % 16).toNat, by omega, by omega, by omega⟩
  rw [hN, if_neg (by omega)]
  obtain ⟨p0, p1⟩ := rest_in a1 (N : Int) (by omega) (by omega)
  obtain ⟨q0, q1⟩ := rest_in a2 (N : Int) (by omega) (by omega)
  generalize Int.tmod (wrap64 (Int.tmod a1 (N : Int) + (N : Int))) (N : Int) = x at p0 p1 ⊢
  generalize Int.tmod (wrap64 (Int.tmod a2 (N : Int) + (N : Int))) (N : Int) = y at q0 q1 ⊢
  obtain ⟨a, rfl⟩ : ∃ a : Nat, x = (a : Int) := ⟨x.toNat, by omega⟩
  obtain ⟨b, rfl⟩ : ∃ b : Nat, y = (b : Int) := ⟨y.toNat, by omega⟩
  by_cases c : (a : Int) > (b : Int)
  · rw [if_pos c]
    exact lines_all N b a h3 h18 (by omega) (by omega)
  · rw [if_neg c]
    exact lines_all N a b h3 h18 (by omega) (by omega)
end Go.Proofs.Ytafjbebbmfihaaa.Pure
