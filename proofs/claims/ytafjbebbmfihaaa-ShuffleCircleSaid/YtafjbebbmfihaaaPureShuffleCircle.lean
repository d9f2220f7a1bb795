/- ferrulelaw20.ShuffleCircle answers true: each length looked through by the kernel; no condition. -/
import Derived.Test.YtafjbebbmfihaaaGBits
import Derived.Test.YtafjbebbmfihaaaPx12
namespace Go.Proofs.Ytafjbebbmfihaaa.Pure
open Go.RowKit Go.Proofs.Ytafjbebbmfihaaa.P Go.Proofs.YtafjbebbmfihaaaW.PrintWords Go.Proofs.YtafjbebbmfihaaaW.PrintLast
set_option linter.unusedVariables false

set_option maxRecDepth 100000 in
theorem circle2 : ∀ b : Bool, ferrulelaw20_ShuffleCircle.l0 60 2 b [] 0 = some true := by decide +kernel
set_option maxRecDepth 100000 in
theorem circle3 : ∀ b : Bool, ferrulelaw20_ShuffleCircle.l0 60 3 b [] 0 = some true := by decide +kernel
set_option maxRecDepth 100000 in
theorem circle4 : ∀ b : Bool, ferrulelaw20_ShuffleCircle.l0 60 4 b [] 0 = some true := by decide +kernel
set_option maxRecDepth 100000 in
theorem circle5 : ∀ b : Bool, ferrulelaw20_ShuffleCircle.l0 60 5 b [] 0 = some true := by decide +kernel
set_option maxRecDepth 100000 in
theorem circle6 : ∀ b : Bool, ferrulelaw20_ShuffleCircle.l0 60 6 b [] 0 = some true := by decide +kernel
set_option maxRecDepth 100000 in
theorem circle7 : ∀ b : Bool, ferrulelaw20_ShuffleCircle.l0 60 7 b [] 0 = some true := by decide +kernel
set_option maxRecDepth 100000 in
theorem circle8 : ∀ b : Bool, ferrulelaw20_ShuffleCircle.l0 60 8 b [] 0 = some true := by decide +kernel
set_option maxRecDepth 100000 in
theorem circle9 : ∀ b : Bool, ferrulelaw20_ShuffleCircle.l0 60 9 b [] 0 = some true := by decide +kernel
set_option maxRecDepth 100000 in
theorem circle10 : ∀ b : Bool, ferrulelaw20_ShuffleCircle.l0 60 10 b [] 0 = some true := by decide +kernel
set_option maxRecDepth 100000 in
theorem circle11 : ∀ b : Bool, ferrulelaw20_ShuffleCircle.l0 60 11 b [] 0 = some true := by decide +kernel
set_option maxRecDepth 100000 in
theorem circle12 : ∀ b : Bool, ferrulelaw20_ShuffleCircle.l0 60 12 b [] 0 = some true := by decide +kernel
set_option maxRecDepth 100000 in
theorem circle13 : ∀ b : Bool, ferrulelaw20_ShuffleCircle.l0 60 13 b [] 0 = some true := by decide +kernel
set_option maxRecDepth 100000 in
theorem circle14 : ∀ b : Bool, ferrulelaw20_ShuffleCircle.l0 60 14 b [] 0 = some true := by decide +kernel
set_option maxRecDepth 100000 in
theorem circle15 : ∀ b : Bool, ferrulelaw20_ShuffleCircle.l0 60 15 b [] 0 = some true := by decide +kernel
set_option maxRecDepth 100000 in
theorem circle16 : ∀ b : Bool, ferrulelaw20_ShuffleCircle.l0 60 16 b [] 0 = some true := by decide +kernel
set_option maxRecDepth 100000 in
theorem circle17 : ∀ b : Bool, ferrulelaw20_ShuffleCircle.l0 60 17 b [] 0 = some true := by decide +kernel
theorem circle_all (N : Nat) (h2 : 2 ≤ N) (h17 : N ≤ 17) (b : Bool) : ferrulelaw20_ShuffleCircle.l0 60 (N : Int) b [] 0 = some true := by
  have h : N = 2 ∨ N = 3 ∨ N = 4 ∨ N = 5 ∨ N = 6 ∨ N = 7 ∨ N = 8 ∨ N = 9 ∨ N = 10 ∨ N = 11 ∨ N = 12 ∨ N = 13 ∨ N = 14 ∨ N = 15 ∨ N = 16 ∨ N = 17 := by omega
  rcases h with rfl | rfl | rfl | rfl | rfl | rfl | rfl | rfl | rfl | rfl | rfl | rfl | rfl | rfl | rfl | rfl
  · exact circle2 b
  · exact circle3 b
  · exact circle4 b
  · exact circle5 b
  · exact circle6 b
  · exact circle7 b
  · exact circle8 b
  · exact circle9 b
  · exact circle10 b
  · exact circle11 b
  · exact circle12 b
  · exact circle13 b
  · exact circle14 b
  · exact circle15 b
  · exact circle16 b
  · exact circle17 b
theorem ShuffleCircle : ferrulelaw20_ShuffleCircle.Pure := by
  intro a0 a1 _
  refine ⟨60, ?_⟩
  unfold ferrulelaw20_ShuffleCircle.f
  obtain ⟨N, hN, h2, h17⟩ : ∃ N : Nat, wrap64 (2 + (Go.bits .and .i64 a0 15)) = (N : Int) ∧ 2 ≤ N ∧ N ≤ 17 := by
    rw [i64_and15, w64 (by omega) (by omega)]
    exact ⟨(2 + a0 % 16).toNat, by omega, by omega, by omega⟩
  rw [hN]
  exact circle_all N h2 h17 a1
end Go.Proofs.Ytafjbebbmfihaaa.Pure
