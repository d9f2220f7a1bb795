/- ferrulelaw11.GraphCloses as one Lean function, and what a call does. Printed, then mended by hand at one index. -/
import Derived.Test.YtafjbebbmfihaaaPx0
import Derived.Test.YtafjbebbmfihaaaHFrom
import Derived.Test.YtafjbebbmfihaaaHReach
import Derived.Test.YtafjbebbmfihaaaPx1
namespace Go.Proofs.Ytafjbebbmfihaaa.P
open Go.RowKit Go.Proofs.YtafjbebbmfihaaaW.PrintWords Go.Proofs.YtafjbebbmfihaaaW.PrintLast Go.Proofs.YtafjbebbmfihaaaW.PrintMore
set_option linter.unusedSectionVars false
attribute [local go_sem] max2_int min2_int max_two min_two max_three min_three max_four min_four   -- for this text's walks alone
set_option linter.unusedVariables false
set_option linter.unusedSimpArgs false

/-! ### ferrulelaw11_GraphCloses: function 3 -/
mutual
def ferrulelaw11_GraphCloses.j0 : Nat → Int → List (List Int) → List Bool → List (List Int) → Bool → Option (Bool)
  | 0, _, _, _, _, _ => none
  | k + 1, x0, x1, x5, x6, x43 => if x43 = true then (some false) else (ferrulelaw11_GraphCloses.l0 k x0 x1 x5 x6 0 0)
def ferrulelaw11_GraphCloses.l0 : Nat → Int → List (List Int) → List Bool → List (List Int) → Int → Int → Option (Bool)
  | 0, _, _, _, _, _, _ => none
  | k + 1, x0, x1, x5, x6, x7, x8 => if x8 < x0 then (ferrulelaw11_GraphCloses.l1 k x0 x1 x5 x6 x7 x8 (x8 == 0) 0) else (ferrulelaw11_GraphCloses.l2 k x0 x1 x5 x7 0 0)
def ferrulelaw11_GraphCloses.l1 : Nat → Int → List (List Int) → List Bool → List (List Int) → Int → Int → Bool → Int → Option (Bool)
  | 0, _, _, _, _, _, _, _, _ => none
  | k + 1, x0, x1, x5, x6, x7, x8, x9, x10 => if 0 ≤ x8 then (if x8 < (x6.length : Int) then (if x10 < ((rd_L1 x6 x8).length : Int) then (if x9 = true then (if x10 > 0 then (if 0 ≤ x10 then (if 0 ≤ (wrap64 (x10 - 1)) then (if (wrap64 (x10 - 1)) < ((rd_L1 x6 x8).length : Int) then (if (rd (rd_L1 x6 x8) x10) ≤ (rd (rd_L1 x6 x8) (wrap64 (x10 - 1))) then (some false) else (ferrulelaw11_GraphCloses.l1 k x0 x1 x5 x6 (wrap64 (x7 + 1)) x8 true (wrap64 (x10 + 1)))) else (none)) else (none)) else (none)) else (ferrulelaw11_GraphCloses.l1 k x0 x1 x5 x6 (wrap64 (x7 + 1)) x8 true (wrap64 (x10 + 1)))) else (if 0 ≤ x10 then (if 0 ≤ (rd (rd_L1 x6 x8) x10) then (if (rd (rd_L1 x6 x8) x10) < (x5.length : Int) then (if x10 > 0 then (if 0 ≤ (wrap64 (x10 - 1)) then (if (wrap64 (x10 - 1)) < ((rd_L1 x6 x8).length : Int) then (if (rd (rd_L1 x6 x8) x10) ≤ (rd (rd_L1 x6 x8) (wrap64 (x10 - 1))) then (some false) else (ferrulelaw11_GraphCloses.l1 k x0 x1 x5 x6 (wrap64 (x7 + 1)) x8 (rdOf false x5 (rd (rd_L1 x6 x8) x10)) (wrap64 (x10 + 1)))) else (none)) else (none)) else (ferrulelaw11_GraphCloses.l1 k x0 x1 x5 x6 (wrap64 (x7 + 1)) x8 (rdOf false x5 (rd (rd_L1 x6 x8) x10)) (wrap64 (x10 + 1)))) else (none)) else (none)) else (none))) else (if x8 < (x5.length : Int) then (if rdOf false x5 x8 = true then (if x9 = true then (ferrulelaw11_GraphCloses.l0 k x0 x1 x5 x6 x7 (wrap64 (x8 + 1))) else (some false)) else (ferrulelaw11_GraphCloses.l0 k x0 x1 x5 x6 x7 (wrap64 (x8 + 1)))) else (none))) else (none)) else (none)
def ferrulelaw11_GraphCloses.l2 : Nat → Int → List (List Int) → List Bool → Int → Int → Int → Option (Bool)
  | 0, _, _, _, _, _, _ => none
  | k + 1, x0, x1, x5, x7, x11, x12 => if x12 < (x1.length : Int) then (ferrulelaw11_GraphCloses.j4 k x0 x1 x5 x7 x11 x12 (decide (x12 < x0))) else (ferrulelaw11_GraphCloses.j4 k x0 x1 x5 x7 x11 x12 false)
def ferrulelaw11_GraphCloses.j4 : Nat → Int → List (List Int) → List Bool → Int → Int → Int → Bool → Option (Bool)
  | 0, _, _, _, _, _, _, _ => none
  | k + 1, x0, x1, x5, x7, x11, x12, x111 => if x111 = true then (ferrulelaw11_GraphCloses.l3 k x0 x1 x5 x7 x11 x12 0) else (some (x11 == x7))
def ferrulelaw11_GraphCloses.l3 : Nat → Int → List (List Int) → List Bool → Int → Int → Int → Int → Option (Bool)
  | 0, _, _, _, _, _, _, _ => none
  | k + 1, x0, x1, x5, x7, x11, x12, x13 => if 0 ≤ x12 then (if x12 < (x1.length : Int) then (if x13 < ((rd_L1 x1 x12).length : Int) then (if 0 ≤ x13 then (if (rd (rd_L1 x1 x12) x13) < 0 then (ferrulelaw11_GraphCloses.j6 k x0 x1 x5 x7 x11 x12 x13 true) else (ferrulelaw11_GraphCloses.j6 k x0 x1 x5 x7 x11 x12 x13 (decide ((rd (rd_L1 x1 x12) x13) ≥ x0)))) else (none)) else (ferrulelaw11_GraphCloses.l2 k x0 x1 x5 x7 x11 (wrap64 (x12 + 1)))) else (none)) else (none)
def ferrulelaw11_GraphCloses.j6 : Nat → Int → List (List Int) → List Bool → Int → Int → Int → Int → Bool → Option (Bool)
  | 0, _, _, _, _, _, _, _, _ => none
  | k + 1, x0, x1, x5, x7, x11, x12, x13, x141 => if x141 = true then (ferrulelaw11_GraphCloses.l3 k x0 x1 x5 x7 x11 x12 (wrap64 (x13 + 1))) else (ferrulelaw11_GraphCloses.l4 k x0 x1 x5 x7 x11 x12 x13 true 0)
def ferrulelaw11_GraphCloses.l4 : Nat → Int → List (List Int) → List Bool → Int → Int → Int → Int → Bool → Int → Option (Bool)
  | 0, _, _, _, _, _, _, _, _, _ => none
  | k + 1, x0, x1, x5, x7, x11, x12, x13, x14, x15 => if x15 < x13 then (if x14 = true then (if 0 ≤ x12 then (if x12 < (x1.length : Int) then (if 0 ≤ x15 then (if x15 < ((rd_L1 x1 x12).length : Int) then (if 0 ≤ x13 then (if x13 < ((rd_L1 x1 x12).length : Int) then (ferrulelaw11_GraphCloses.l4 k x0 x1 x5 x7 x11 x12 x13 ((rd (rd_L1 x1 x12) x15) != (rd (rd_L1 x1 x12) x13)) (wrap64 (x15 + 1))) else (none)) else (none)) else (none)) else (none)) else (none)) else (none)) else (ferrulelaw11_GraphCloses.l4 k x0 x1 x5 x7 x11 x12 x13 false (wrap64 (x15 + 1)))) else (if x14 = true then (if 0 ≤ x12 then (if x12 < (x5.length : Int) then (if rdOf false x5 x12 = true then (if x12 < (x1.length : Int) then (if 0 ≤ x13 then (if x13 < ((rd_L1 x1 x12).length : Int) then (if 0 ≤ (rd (rd_L1 x1 x12) x13) then (if (rd (rd_L1 x1 x12) x13) < (x5.length : Int) then (if (rdOf false x5 (rd (rd_L1 x1 x12) x13) = true) then (ferrulelaw11_GraphCloses.l3 k x0 x1 x5 x7 (wrap64 (x11 + 1)) x12 (wrap64 (x13 + 1))) else (some false)) else (none)) else (none)) else (none)) else (none)) else (none)) else (ferrulelaw11_GraphCloses.l3 k x0 x1 x5 x7 (wrap64 (x11 + 1)) x12 (wrap64 (x13 + 1)))) else (none)) else (none)) else (if 0 ≤ x12 then (if x12 < (x5.length : Int) then (if rdOf false x5 x12 = true then (if x12 < (x1.length : Int) then (if 0 ≤ x13 then (if x13 < ((rd_L1 x1 x12).length : Int) then (if 0 ≤ (rd (rd_L1 x1 x12) x13) then (if (rd (rd_L1 x1 x12) x13) < (x5.length : Int) then (if (rdOf false x5 (rd (rd_L1 x1 x12) x13) = true) then (ferrulelaw11_GraphCloses.l3 k x0 x1 x5 x7 x11 x12 (wrap64 (x13 + 1))) else (some false)) else (none)) else (none)) else (none)) else (none)) else (none)) else (ferrulelaw11_GraphCloses.l3 k x0 x1 x5 x7 x11 x12 (wrap64 (x13 + 1)))) else (none)) else (none)))
end
def ferrulelaw11_GraphCloses.f (k : Nat) (a0 : Int) (l1 : List (List Int)) : Option (Bool) := (ferrulelaw11_few.f k l1).bind fun t107 => (if t107 = true then ((graph_Reach.f k (wrap64 (1 + (Go.bits .and .i64 a0 31))) l1).bind fun t108 => ((graph_From.f k (wrap64 (1 + (Go.bits .and .i64 a0 31))) l1).bind fun t111 => (if (t108.length : Int) = (wrap64 (1 + (Go.bits .and .i64 a0 31))) then (if (t111.length : Int) = (wrap64 (1 + (Go.bits .and .i64 a0 31))) then (if 0 < (t108.length : Int) then (ferrulelaw11_GraphCloses.j0 k (wrap64 (1 + (Go.bits .and .i64 a0 31))) l1 t108 t111 (!(rdOf false t108 0))) else (none)) else (ferrulelaw11_GraphCloses.j0 k (wrap64 (1 + (Go.bits .and .i64 a0 31))) l1 t108 t111 true)) else (ferrulelaw11_GraphCloses.j0 k (wrap64 (1 + (Go.bits .and .i64 a0 31))) l1 t108 t111 true)))) else (some true))
theorem ferrulelaw11_GraphCloses.mono_l : ∀ k, (∀ y0 y1 y2 y3 y4, LeO (ferrulelaw11_GraphCloses.j0 k y0 y1 y2 y3 y4) (ferrulelaw11_GraphCloses.j0 (k + 1) y0 y1 y2 y3 y4)) ∧ (∀ y0 y1 y2 y3 y4 y5, LeO (ferrulelaw11_GraphCloses.l0 k y0 y1 y2 y3 y4 y5) (ferrulelaw11_GraphCloses.l0 (k + 1) y0 y1 y2 y3 y4 y5)) ∧ (∀ y0 y1 y2 y3 y4 y5 y6 y7, LeO (ferrulelaw11_GraphCloses.l1 k y0 y1 y2 y3 y4 y5 y6 y7) (ferrulelaw11_GraphCloses.l1 (k + 1) y0 y1 y2 y3 y4 y5 y6 y7)) ∧ (∀ y0 y1 y2 y3 y4 y5, LeO (ferrulelaw11_GraphCloses.l2 k y0 y1 y2 y3 y4 y5) (ferrulelaw11_GraphCloses.l2 (k + 1) y0 y1 y2 y3 y4 y5)) ∧ (∀ y0 y1 y2 y3 y4 y5 y6, LeO (ferrulelaw11_GraphCloses.j4 k y0 y1 y2 y3 y4 y5 y6) (ferrulelaw11_GraphCloses.j4 (k + 1) y0 y1 y2 y3 y4 y5 y6)) ∧ (∀ y0 y1 y2 y3 y4 y5 y6, LeO (ferrulelaw11_GraphCloses.l3 k y0 y1 y2 y3 y4 y5 y6) (ferrulelaw11_GraphCloses.l3 (k + 1) y0 y1 y2 y3 y4 y5 y6)) ∧ (∀ y0 y1 y2 y3 y4 y5 y6 y7, LeO (ferrulelaw11_GraphCloses.j6 k y0 y1 y2 y3 y4 y5 y6 y7) (ferrulelaw11_GraphCloses.j6 (k + 1) y0 y1 y2 y3 y4 y5 y6 y7)) ∧ (∀ y0 y1 y2 y3 y4 y5 y6 y7 y8, LeO (ferrulelaw11_GraphCloses.l4 k y0 y1 y2 y3 y4 y5 y6 y7 y8) (ferrulelaw11_GraphCloses.l4 (k + 1) y0 y1 y2 y3 y4 y5 y6 y7 y8))
  | 0 => ⟨fun _ _ _ _ _ r h => by simp [ferrulelaw11_GraphCloses.j0] at h, fun _ _ _ _ _ _ r h => by simp [ferrulelaw11_GraphCloses.l0] at h, fun _ _ _ _ _ _ _ _ r h => by simp [ferrulelaw11_GraphCloses.l1] at h, fun _ _ _ _ _ _ r h => by simp [ferrulelaw11_GraphCloses.l2] at h, fun _ _ _ _ _ _ _ r h => by simp [ferrulelaw11_GraphCloses.j4] at h, fun _ _ _ _ _ _ _ r h => by simp [ferrulelaw11_GraphCloses.l3] at h, fun _ _ _ _ _ _ _ _ r h => by simp [ferrulelaw11_GraphCloses.j6] at h, fun _ _ _ _ _ _ _ _ _ r h => by simp [ferrulelaw11_GraphCloses.l4] at h⟩
  | k + 1 => by
    obtain ⟨ih0, ih1, ih2, ih3, ih4, ih5, ih6, ih7⟩ := ferrulelaw11_GraphCloses.mono_l k
    refine ⟨?_, ?_, ?_, ?_, ?_, ?_, ?_, ?_⟩
    · intro y0 y1 y2 y3 y4
      unfold ferrulelaw11_GraphCloses.j0
      repeat' first
      | (with_reducible exact ih0 _ _ _ _ _)
      | (with_reducible exact ih1 _ _ _ _ _ _)
      | (with_reducible exact ih2 _ _ _ _ _ _ _ _)
      | (with_reducible exact ih3 _ _ _ _ _ _)
      | (with_reducible exact ih4 _ _ _ _ _ _ _)
      | (with_reducible exact ih5 _ _ _ _ _ _ _)
      | (with_reducible exact ih6 _ _ _ _ _ _ _ _)
      | (with_reducible exact ih7 _ _ _ _ _ _ _ _ _)
      | (with_reducible exact ferrulelaw11_few.mono _ _)
      | (with_reducible exact graph_From.mono _ _ _)
      | (with_reducible exact graph_Reach.mono _ _ _)
      | (with_reducible exact LeO.refl _)
      | (with_reducible exact LeO.none _)
      | (with_reducible refine LeO.ite ?_ ?_)
      | (with_reducible refine LeO.bind ?_ (fun _ => ?_))
      | exact ih0 _ _ _ _ _
      | exact ih1 _ _ _ _ _ _
      | exact ih2 _ _ _ _ _ _ _ _
      | exact ih3 _ _ _ _ _ _
      | exact ih4 _ _ _ _ _ _ _
      | exact ih5 _ _ _ _ _ _ _
      | exact ih6 _ _ _ _ _ _ _ _
      | exact ih7 _ _ _ _ _ _ _ _ _
      | exact ferrulelaw11_few.mono _ _
      | exact graph_From.mono _ _ _
      | exact graph_Reach.mono _ _ _
      | exact LeO.none _
      | refine LeO.ite ?_ ?_
      | refine LeO.bind ?_ (fun _ => ?_)
    · intro y0 y1 y2 y3 y4 y5
      unfold ferrulelaw11_GraphCloses.l0
      repeat' first
      | (with_reducible exact ih0 _ _ _ _ _)
      | (with_reducible exact ih1 _ _ _ _ _ _)
      | (with_reducible exact ih2 _ _ _ _ _ _ _ _)
      | (with_reducible exact ih3 _ _ _ _ _ _)
      | (with_reducible exact ih4 _ _ _ _ _ _ _)
      | (with_reducible exact ih5 _ _ _ _ _ _ _)
      | (with_reducible exact ih6 _ _ _ _ _ _ _ _)
      | (with_reducible exact ih7 _ _ _ _ _ _ _ _ _)
      | (with_reducible exact ferrulelaw11_few.mono _ _)
      | (with_reducible exact graph_From.mono _ _ _)
      | (with_reducible exact graph_Reach.mono _ _ _)
      | (with_reducible exact LeO.refl _)
      | (with_reducible exact LeO.none _)
      | (with_reducible refine LeO.ite ?_ ?_)
      | (with_reducible refine LeO.bind ?_ (fun _ => ?_))
      | exact ih0 _ _ _ _ _
      | exact ih1 _ _ _ _ _ _
      | exact ih2 _ _ _ _ _ _ _ _
      | exact ih3 _ _ _ _ _ _
      | exact ih4 _ _ _ _ _ _ _
      | exact ih5 _ _ _ _ _ _ _
      | exact ih6 _ _ _ _ _ _ _ _
      | exact ih7 _ _ _ _ _ _ _ _ _
      | exact ferrulelaw11_few.mono _ _
      | exact graph_From.mono _ _ _
      | exact graph_Reach.mono _ _ _
      | exact LeO.none _
      | refine LeO.ite ?_ ?_
      | refine LeO.bind ?_ (fun _ => ?_)
    · intro y0 y1 y2 y3 y4 y5 y6 y7
      unfold ferrulelaw11_GraphCloses.l1
      repeat' first
      | (with_reducible exact ih0 _ _ _ _ _)
      | (with_reducible exact ih1 _ _ _ _ _ _)
      | (with_reducible exact ih2 _ _ _ _ _ _ _ _)
      | (with_reducible exact ih3 _ _ _ _ _ _)
      | (with_reducible exact ih4 _ _ _ _ _ _ _)
      | (with_reducible exact ih5 _ _ _ _ _ _ _)
      | (with_reducible exact ih6 _ _ _ _ _ _ _ _)
      | (with_reducible exact ih7 _ _ _ _ _ _ _ _ _)
      | (with_reducible exact ferrulelaw11_few.mono _ _)
      | (with_reducible exact graph_From.mono _ _ _)
      | (with_reducible exact graph_Reach.mono _ _ _)
      | (with_reducible exact LeO.refl _)
      | (with_reducible exact LeO.none _)
      | (with_reducible refine LeO.ite ?_ ?_)
      | (with_reducible refine LeO.bind ?_ (fun _ => ?_))
      | exact ih0 _ _ _ _ _
      | exact ih1 _ _ _ _ _ _
      | exact ih2 _ _ _ _ _ _ _ _
      | exact ih3 _ _ _ _ _ _
      | exact ih4 _ _ _ _ _ _ _
      | exact ih5 _ _ _ _ _ _ _
      | exact ih6 _ _ _ _ _ _ _ _
      | exact ih7 _ _ _ _ _ _ _ _ _
      | exact ferrulelaw11_few.mono _ _
      | exact graph_From.mono _ _ _
      | exact graph_Reach.mono _ _ _
      | exact LeO.none _
      | refine LeO.ite ?_ ?_
      | refine LeO.bind ?_ (fun _ => ?_)
    · intro y0 y1 y2 y3 y4 y5
      unfold ferrulelaw11_GraphCloses.l2
      repeat' first
      | (with_reducible exact ih0 _ _ _ _ _)
      | (with_reducible exact ih1 _ _ _ _ _ _)
      | (with_reducible exact ih2 _ _ _ _ _ _ _ _)
      | (with_reducible exact ih3 _ _ _ _ _ _)
      | (with_reducible exact ih4 _ _ _ _ _ _ _)
      | (with_reducible exact ih5 _ _ _ _ _ _ _)
      | (with_reducible exact ih6 _ _ _ _ _ _ _ _)
      | (with_reducible exact ih7 _ _ _ _ _ _ _ _ _)
      | (with_reducible exact ferrulelaw11_few.mono _ _)
      | (with_reducible exact graph_From.mono _ _ _)
      | (with_reducible exact graph_Reach.mono _ _ _)
      | (with_reducible exact LeO.refl _)
      | (with_reducible exact LeO.none _)
      | (with_reducible refine LeO.ite ?_ ?_)
      | (with_reducible refine LeO.bind ?_ (fun _ => ?_))
      | exact ih0 _ _ _ _ _
      | exact ih1 _ _ _ _ _ _
      | exact ih2 _ _ _ _ _ _ _ _
      | exact ih3 _ _ _ _ _ _
      | exact ih4 _ _ _ _ _ _ _
      | exact ih5 _ _ _ _ _ _ _
      | exact ih6 _ _ _ _ _ _ _ _
      | exact ih7 _ _ _ _ _ _ _ _ _
      | exact ferrulelaw11_few.mono _ _
      | exact graph_From.mono _ _ _
      | exact graph_Reach.mono _ _ _
      | exact LeO.none _
      | refine LeO.ite ?_ ?_
      | refine LeO.bind ?_ (fun _ => ?_)
    · intro y0 y1 y2 y3 y4 y5 y6
      unfold ferrulelaw11_GraphCloses.j4
      repeat' first
      | (with_reducible exact ih0 _ _ _ _ _)
      | (with_reducible exact ih1 _ _ _ _ _ _)
      | (with_reducible exact ih2 _ _ _ _ _ _ _ _)
      | (with_reducible exact ih3 _ _ _ _ _ _)
      | (with_reducible exact ih4 _ _ _ _ _ _ _)
      | (with_reducible exact ih5 _ _ _ _ _ _ _)
      | (with_reducible exact ih6 _ _ _ _ _ _ _ _)
      | (with_reducible exact ih7 _ _ _ _ _ _ _ _ _)
      | (with_reducible exact ferrulelaw11_few.mono _ _)
      | (with_reducible exact graph_From.mono _ _ _)
      | (with_reducible exact graph_Reach.mono _ _ _)
      | (with_reducible exact LeO.refl _)
      | (with_reducible exact LeO.none _)
      | (with_reducible refine LeO.ite ?_ ?_)
      | (with_reducible refine LeO.bind ?_ (fun _ => ?_))
      | exact ih0 _ _ _ _ _
      | exact ih1 _ _ _ _ _ _
      | exact ih2 _ _ _ _ _ _ _ _
      | exact ih3 _ _ _ _ _ _
      | exact ih4 _ _ _ _ _ _ _
      | exact ih5 _ _ _ _ _ _ _
      | exact ih6 _ _ _ _ _ _ _ _
      | exact ih7 _ _ _ _ _ _ _ _ _
      | exact ferrulelaw11_few.mono _ _
      | exact graph_From.mono _ _ _
      | exact graph_Reach.mono _ _ _
      | exact LeO.none _
      | refine LeO.ite ?_ ?_
      | refine LeO.bind ?_ (fun _ => ?_)
    · intro y0 y1 y2 y3 y4 y5 y6
      unfold ferrulelaw11_GraphCloses.l3
      repeat' first
      | (with_reducible exact ih0 _ _ _ _ _)
      | (with_reducible exact ih1 _ _ _ _ _ _)
      | (with_reducible exact ih2 _ _ _ _ _ _ _ _)
      | (with_reducible exact ih3 _ _ _ _ _ _)
      | (with_reducible exact ih4 _ _ _ _ _ _ _)
      | (with_reducible exact ih5 _ _ _ _ _ _ _)
      | (with_reducible exact ih6 _ _ _ _ _ _ _ _)
      | (with_reducible exact ih7 _ _ _ _ _ _ _ _ _)
      | (with_reducible exact ferrulelaw11_few.mono _ _)
      | (with_reducible exact graph_From.mono _ _ _)
      | (with_reducible exact graph_Reach.mono _ _ _)
      | (with_reducible exact LeO.refl _)
      | (with_reducible exact LeO.none _)
      | (with_reducible refine LeO.ite ?_ ?_)
      | (with_reducible refine LeO.bind ?_ (fun _ => ?_))
      | exact ih0 _ _ _ _ _
      | exact ih1 _ _ _ _ _ _
      | exact ih2 _ _ _ _ _ _ _ _
      | exact ih3 _ _ _ _ _ _
      | exact ih4 _ _ _ _ _ _ _
      | exact ih5 _ _ _ _ _ _ _
      | exact ih6 _ _ _ _ _ _ _ _
      | exact ih7 _ _ _ _ _ _ _ _ _
      | exact ferrulelaw11_few.mono _ _
      | exact graph_From.mono _ _ _
      | exact graph_Reach.mono _ _ _
      | exact LeO.none _
      | refine LeO.ite ?_ ?_
      | refine LeO.bind ?_ (fun _ => ?_)
    · intro y0 y1 y2 y3 y4 y5 y6 y7
      unfold ferrulelaw11_GraphCloses.j6
      repeat' first
      | (with_reducible exact ih0 _ _ _ _ _)
      | (with_reducible exact ih1 _ _ _ _ _ _)
      | (with_reducible exact ih2 _ _ _ _ _ _ _ _)
      | (with_reducible exact ih3 _ _ _ _ _ _)
      | (with_reducible exact ih4 _ _ _ _ _ _ _)
      | (with_reducible exact ih5 _ _ _ _ _ _ _)
      | (with_reducible exact ih6 _ _ _ _ _ _ _ _)
      | (with_reducible exact ih7 _ _ _ _ _ _ _ _ _)
      | (with_reducible exact ferrulelaw11_few.mono _ _)
      | (with_reducible exact graph_From.mono _ _ _)
      | (with_reducible exact graph_Reach.mono _ _ _)
      | (with_reducible exact LeO.refl _)
      | (with_reducible exact LeO.none _)
      | (with_reducible refine LeO.ite ?_ ?_)
      | (with_reducible refine LeO.bind ?_ (fun _ => ?_))
      | exact ih0 _ _ _ _ _
      | exact ih1 _ _ _ _ _ _
      | exact ih2 _ _ _ _ _ _ _ _
      | exact ih3 _ _ _ _ _ _
      | exact ih4 _ _ _ _ _ _ _
      | exact ih5 _ _ _ _ _ _ _
      | exact ih6 _ _ _ _ _ _ _ _
      | exact ih7 _ _ _ _ _ _ _ _ _
      | exact ferrulelaw11_few.mono _ _
      | exact graph_From.mono _ _ _
      | exact graph_Reach.mono _ _ _
      | exact LeO.none _
      | refine LeO.ite ?_ ?_
      | refine LeO.bind ?_ (fun _ => ?_)
    · intro y0 y1 y2 y3 y4 y5 y6 y7 y8
      unfold ferrulelaw11_GraphCloses.l4
      repeat' first
      | (with_reducible exact ih0 _ _ _ _ _)
      | (with_reducible exact ih1 _ _ _ _ _ _)
      | (with_reducible exact ih2 _ _ _ _ _ _ _ _)
      | (with_reducible exact ih3 _ _ _ _ _ _)
      | (with_reducible exact ih4 _ _ _ _ _ _ _)
      | (with_reducible exact ih5 _ _ _ _ _ _ _)
      | (with_reducible exact ih6 _ _ _ _ _ _ _ _)
      | (with_reducible exact ih7 _ _ _ _ _ _ _ _ _)
      | (with_reducible exact ferrulelaw11_few.mono _ _)
      | (with_reducible exact graph_From.mono _ _ _)
      | (with_reducible exact graph_Reach.mono _ _ _)
      | (with_reducible exact LeO.refl _)
      | (with_reducible exact LeO.none _)
      | (with_reducible refine LeO.ite ?_ ?_)
      | (with_reducible refine LeO.bind ?_ (fun _ => ?_))
      | exact ih0 _ _ _ _ _
      | exact ih1 _ _ _ _ _ _
      | exact ih2 _ _ _ _ _ _ _ _
      | exact ih3 _ _ _ _ _ _
      | exact ih4 _ _ _ _ _ _ _
      | exact ih5 _ _ _ _ _ _ _
      | exact ih6 _ _ _ _ _ _ _ _
      | exact ih7 _ _ _ _ _ _ _ _ _
      | exact ferrulelaw11_few.mono _ _
      | exact graph_From.mono _ _ _
      | exact graph_Reach.mono _ _ _
      | exact LeO.none _
      | refine LeO.ite ?_ ?_
      | refine LeO.bind ?_ (fun _ => ?_)
theorem ferrulelaw11_GraphCloses.mono : ∀ a0 a1 k, LeO (ferrulelaw11_GraphCloses.f k a0 a1) (ferrulelaw11_GraphCloses.f (k + 1) a0 a1) := by
  intro a0 a1 k
  obtain ⟨ih0, ih1, ih2, ih3, ih4, ih5, ih6, ih7⟩ := ferrulelaw11_GraphCloses.mono_l k
  unfold ferrulelaw11_GraphCloses.f
  repeat' first
      | (with_reducible exact ih0 _ _ _ _ _)
      | (with_reducible exact ih1 _ _ _ _ _ _)
      | (with_reducible exact ih2 _ _ _ _ _ _ _ _)
      | (with_reducible exact ih3 _ _ _ _ _ _)
      | (with_reducible exact ih4 _ _ _ _ _ _ _)
      | (with_reducible exact ih5 _ _ _ _ _ _ _)
      | (with_reducible exact ih6 _ _ _ _ _ _ _ _)
      | (with_reducible exact ih7 _ _ _ _ _ _ _ _ _)
      | (with_reducible exact ferrulelaw11_few.mono _ _)
      | (with_reducible exact graph_From.mono _ _ _)
      | (with_reducible exact graph_Reach.mono _ _ _)
      | (with_reducible exact LeO.refl _)
      | (with_reducible exact LeO.none _)
      | (with_reducible refine LeO.ite ?_ ?_)
      | (with_reducible refine LeO.bind ?_ (fun _ => ?_))
      | exact ih0 _ _ _ _ _
      | exact ih1 _ _ _ _ _ _
      | exact ih2 _ _ _ _ _ _ _ _
      | exact ih3 _ _ _ _ _ _
      | exact ih4 _ _ _ _ _ _ _
      | exact ih5 _ _ _ _ _ _ _
      | exact ih6 _ _ _ _ _ _ _ _
      | exact ih7 _ _ _ _ _ _ _ _ _
      | exact ferrulelaw11_few.mono _ _
      | exact graph_From.mono _ _ _
      | exact graph_Reach.mono _ _ _
      | exact LeO.none _
      | refine LeO.ite ?_ ?_
      | refine LeO.bind ?_ (fun _ => ?_)
set_option maxHeartbeats 8000000 in
set_option maxRecDepth 100000 in
theorem ferrulelaw11_GraphCloses.calls (k : Nat) (a0 : Int) (A1 : Option Addr) (c1 : Nat) (l1 : List (List Int)) (r : Bool) (w : World) (hr1 : Kd.C (Kd.slice 3 (Kd.int .i64)) w A1 l1.length l1) (hc1 : l1.length ≤ c1) (h : ferrulelaw11_GraphCloses.f k a0 l1 = some r) :
    Calls Try.prog 3 #[.int .i64 a0, .slice A1 l1.length c1] w fun e w' => e = .returned (.bool r) ∧ Below w.heap.size w w' := by
  have HR1 := Aside0.mk hr1
  have HC1 := Aside0.mk hc1
  clear hr1 hc1
  have HB := Aside0.mk (Below.refl w.heap.size w)
  have H : ((ferrulelaw11_few.f k l1).bind fun t107 => (if t107 = true then ((graph_Reach.f k (wrap64 (1 + (Go.bits .and .i64 a0 31))) l1).bind fun t108 => ((graph_From.f k (wrap64 (1 + (Go.bits .and .i64 a0 31))) l1).bind fun t111 => (if (t108.length : Int) = (wrap64 (1 + (Go.bits .and .i64 a0 31))) then (if (t111.length : Int) = (wrap64 (1 + (Go.bits .and .i64 a0 31))) then (if 0 < (t108.length : Int) then (ferrulelaw11_GraphCloses.j0 k (wrap64 (1 + (Go.bits .and .i64 a0 31))) l1 t108 t111 (!(rdOf false t108 0))) else (none)) else (ferrulelaw11_GraphCloses.j0 k (wrap64 (1 + (Go.bits .and .i64 a0 31))) l1 t108 t111 true)) else (ferrulelaw11_GraphCloses.j0 k (wrap64 (1 + (Go.bits .and .i64 a0 31))) l1 t108 t111 true)))) else (some true))) = some r := h
  clear h
  replace H := Option.bind_eq_some_iff.mp H
  obtain ⟨t107, A30, H⟩ := H
  replace H : (if t107 = true then ((graph_Reach.f k (wrap64 (1 + (Go.bits .and .i64 a0 31))) l1).bind fun t108 => ((graph_From.f k (wrap64 (1 + (Go.bits .and .i64 a0 31))) l1).bind fun t111 => (if (t108.length : Int) = (wrap64 (1 + (Go.bits .and .i64 a0 31))) then (if (t111.length : Int) = (wrap64 (1 + (Go.bits .and .i64 a0 31))) then (if 0 < (t108.length : Int) then (ferrulelaw11_GraphCloses.j0 k (wrap64 (1 + (Go.bits .and .i64 a0 31))) l1 t108 t111 (!(rdOf false t108 0))) else (none)) else (ferrulelaw11_GraphCloses.j0 k (wrap64 (1 + (Go.bits .and .i64 a0 31))) l1 t108 t111 true)) else (ferrulelaw11_GraphCloses.j0 k (wrap64 (1 + (Go.bits .and .i64 a0 31))) l1 t108 t111 true)))) else (some true)) = some r := H
  have A3 := Aside0.mk A30
  clear A30
  by_cases c4 : t107 = true
  · subst c4
    have H1 : ((graph_Reach.f k (wrap64 (1 + (Go.bits .and .i64 a0 31))) l1).bind fun t108 => ((graph_From.f k (wrap64 (1 + (Go.bits .and .i64 a0 31))) l1).bind fun t111 => (if (t108.length : Int) = (wrap64 (1 + (Go.bits .and .i64 a0 31))) then (if (t111.length : Int) = (wrap64 (1 + (Go.bits .and .i64 a0 31))) then (if 0 < (t108.length : Int) then (ferrulelaw11_GraphCloses.j0 k (wrap64 (1 + (Go.bits .and .i64 a0 31))) l1 t108 t111 (!(rdOf false t108 0))) else (none)) else (ferrulelaw11_GraphCloses.j0 k (wrap64 (1 + (Go.bits .and .i64 a0 31))) l1 t108 t111 true)) else (ferrulelaw11_GraphCloses.j0 k (wrap64 (1 + (Go.bits .and .i64 a0 31))) l1 t108 t111 true)))) = some r := by rw [if_pos rfl] at H; exact H
    clear H
    have H := H1
    clear H1
    replace H := Option.bind_eq_some_iff.mp H
    obtain ⟨t108, A50, H⟩ := H
    replace H : ((graph_From.f k (wrap64 (1 + (Go.bits .and .i64 a0 31))) l1).bind fun t111 => (if (t108.length : Int) = (wrap64 (1 + (Go.bits .and .i64 a0 31))) then (if (t111.length : Int) = (wrap64 (1 + (Go.bits .and .i64 a0 31))) then (if 0 < (t108.length : Int) then (ferrulelaw11_GraphCloses.j0 k (wrap64 (1 + (Go.bits .and .i64 a0 31))) l1 t108 t111 (!(rdOf false t108 0))) else (none)) else (ferrulelaw11_GraphCloses.j0 k (wrap64 (1 + (Go.bits .and .i64 a0 31))) l1 t108 t111 true)) else (ferrulelaw11_GraphCloses.j0 k (wrap64 (1 + (Go.bits .and .i64 a0 31))) l1 t108 t111 true))) = some r := H
    have A5 := Aside0.mk A50
    clear A50
    replace H := Option.bind_eq_some_iff.mp H
    obtain ⟨t111, A60, H⟩ := H
    replace H : (if (t108.length : Int) = (wrap64 (1 + (Go.bits .and .i64 a0 31))) then (if (t111.length : Int) = (wrap64 (1 + (Go.bits .and .i64 a0 31))) then (if 0 < (t108.length : Int) then (ferrulelaw11_GraphCloses.j0 k (wrap64 (1 + (Go.bits .and .i64 a0 31))) l1 t108 t111 (!(rdOf false t108 0))) else (none)) else (ferrulelaw11_GraphCloses.j0 k (wrap64 (1 + (Go.bits .and .i64 a0 31))) l1 t108 t111 true)) else (ferrulelaw11_GraphCloses.j0 k (wrap64 (1 + (Go.bits .and .i64 a0 31))) l1 t108 t111 true)) = some r := H
    have A6 := Aside0.mk A60
    clear A60
    have HC7 := Aside0.mk H
    clear H
    go_enter Try.func3, Try.ntmps3
    go_upto_region 6 with (first | (go_at_call 10; (with_reducible refine (ferrulelaw11_few.calls k _ _ l1 true _ ?side1 ?side2 A3.out).mono ?_); (case side1 => repeat (first | exact HR1.out | (with_reducible refine Kd.C_alloc ?_ _) | (with_reducible refine Kd.C_drewN ?_ _) | (with_reducible refine Kd.C_drew ?_))); (case side2 => exact HC1.out); rintro e w' ⟨rfl, ⟨nd, rfl⟩⟩; (try first | exact ⟨rfl, _, World.drewN_drewN _ _ _⟩ | exact ⟨rfl, _, Eq.trans (World.drewN_drewN _ _ _) (congrArg (World.drewN _) (Nat.add_assoc _ _ _))⟩)) | (go_at_call 11; (with_reducible refine (graph_Reach.calls k (wrap64 (1 + (Go.bits .and .i64 a0 31))) _ _ l1 t108 _ ?side1 ?side2 A5.out).mono ?_); (case side1 => repeat (first | exact HR1.out | (with_reducible refine Kd.C_alloc ?_ _) | (with_reducible refine Kd.C_drewN ?_ _) | (with_reducible refine Kd.C_drew ?_))); (case side2 => exact HC1.out); rintro e w8 ⟨v109, rfl, ho0, hb⟩; have n0_ := Aside0.mk (Kd.R_lower ho0 (below_size (by repeat (first | (with_reducible first | exact HB.out | apply below_alloc | apply pw_below_drewN | apply below_drew1) | exact HB.out)))); have n1_ := Aside0.mk (below_step (by repeat (first | (with_reducible first | exact HB.out | apply below_alloc | apply pw_below_drewN | apply below_drew1) | exact HB.out)) hb); clear HB; have HO110 := n0_; have HB := n1_; clear n0_ n1_; (try clear hb); (try clear hb2); (try clear hk); (try clear hi); (try clear ho0)) | (go_at_call 12; (with_reducible refine (graph_From.calls k (wrap64 (1 + (Go.bits .and .i64 a0 31))) _ _ l1 t111 _ ?side1 ?side2 A6.out).mono ?_); (case side1 => repeat (first | exact (Kd.C_below HR1.out HB.out) | (with_reducible refine Kd.C_alloc ?_ _) | (with_reducible refine Kd.C_drewN ?_ _) | (with_reducible refine Kd.C_drew ?_))); (case side2 => exact HC1.out); rintro e w9 ⟨v112, rfl, ho0, hb⟩; have n0_ := Aside0.mk (Kd.R_below (by (with_reducible repeat (first | apply Kd.R_alloc | apply Kd.R_drewN | apply Kd.R_drew)); exact HO110.out) hb); have n1_ := Aside0.mk (Kd.S_lower ho0 (below_size (by repeat (first | (with_reducible first | exact HB.out | apply below_alloc | apply pw_below_drewN | apply below_drew1) | exact HB.out)))); have n2_ := Aside0.mk (below_step (by repeat (first | (with_reducible first | exact HB.out | apply below_alloc | apply pw_below_drewN | apply below_drew1) | exact HB.out)) hb); clear HO110; clear HB; have HO110 := n0_; have HO113 := n1_; have HB := n2_; clear n0_ n1_ n2_; (try clear hb); (try clear hb2); (try clear hk); (try clear hi); (try clear ho0)))
    repeat (go_quiet (first | (go_at_call 10; (with_reducible refine (ferrulelaw11_few.calls k _ _ l1 true _ ?side1 ?side2 A3.out).mono ?_); (case side1 => repeat (first | exact HR1.out | (with_reducible refine Kd.C_alloc ?_ _) | (with_reducible refine Kd.C_drewN ?_ _) | (with_reducible refine Kd.C_drew ?_))); (case side2 => exact HC1.out); rintro e w' ⟨rfl, ⟨nd, rfl⟩⟩; (try first | exact ⟨rfl, _, World.drewN_drewN _ _ _⟩ | exact ⟨rfl, _, Eq.trans (World.drewN_drewN _ _ _) (congrArg (World.drewN _) (Nat.add_assoc _ _ _))⟩)) | (go_at_call 11; (with_reducible refine (graph_Reach.calls k (wrap64 (1 + (Go.bits .and .i64 a0 31))) _ _ l1 t108 _ ?side1 ?side2 A5.out).mono ?_); (case side1 => repeat (first | exact HR1.out | (with_reducible refine Kd.C_alloc ?_ _) | (with_reducible refine Kd.C_drewN ?_ _) | (with_reducible refine Kd.C_drew ?_))); (case side2 => exact HC1.out); rintro e w8 ⟨v109, rfl, ho0, hb⟩; have n0_ := Aside0.mk (Kd.R_lower ho0 (below_size (by repeat (first | (with_reducible first | exact HB.out | apply below_alloc | apply pw_below_drewN | apply below_drew1) | exact HB.out)))); have n1_ := Aside0.mk (below_step (by repeat (first | (with_reducible first | exact HB.out | apply below_alloc | apply pw_below_drewN | apply below_drew1) | exact HB.out)) hb); clear HB; have HO110 := n0_; have HB := n1_; clear n0_ n1_; (try clear hb); (try clear hb2); (try clear hk); (try clear hi); (try clear ho0)) | (go_at_call 12; (with_reducible refine (graph_From.calls k (wrap64 (1 + (Go.bits .and .i64 a0 31))) _ _ l1 t111 _ ?side1 ?side2 A6.out).mono ?_); (case side1 => repeat (first | exact (Kd.C_below HR1.out HB.out) | (with_reducible refine Kd.C_alloc ?_ _) | (with_reducible refine Kd.C_drewN ?_ _) | (with_reducible refine Kd.C_drew ?_))); (case side2 => exact HC1.out); rintro e w9 ⟨v112, rfl, ho0, hb⟩; have n0_ := Aside0.mk (Kd.R_below (by (with_reducible repeat (first | apply Kd.R_alloc | apply Kd.R_drewN | apply Kd.R_drew)); exact HO110.out) hb); have n1_ := Aside0.mk (Kd.S_lower ho0 (below_size (by repeat (first | (with_reducible first | exact HB.out | apply below_alloc | apply pw_below_drewN | apply below_drew1) | exact HB.out)))); have n2_ := Aside0.mk (below_step (by repeat (first | (with_reducible first | exact HB.out | apply below_alloc | apply pw_below_drewN | apply below_drew1) | exact HB.out)) hb); clear HO110; clear HB; have HO110 := n0_; have HO113 := n1_; have HB := n2_; clear n0_ n1_ n2_; (try clear hb); (try clear hb2); (try clear hk); (try clear hi); (try clear ho0))); go_upto_region 6 with (first | (go_at_call 10; (with_reducible refine (ferrulelaw11_few.calls k _ _ l1 true _ ?side1 ?side2 A3.out).mono ?_); (case side1 => repeat (first | exact HR1.out | (with_reducible refine Kd.C_alloc ?_ _) | (with_reducible refine Kd.C_drewN ?_ _) | (with_reducible refine Kd.C_drew ?_))); (case side2 => exact HC1.out); rintro e w' ⟨rfl, ⟨nd, rfl⟩⟩; (try first | exact ⟨rfl, _, World.drewN_drewN _ _ _⟩ | exact ⟨rfl, _, Eq.trans (World.drewN_drewN _ _ _) (congrArg (World.drewN _) (Nat.add_assoc _ _ _))⟩)) | (go_at_call 11; (with_reducible refine (graph_Reach.calls k (wrap64 (1 + (Go.bits .and .i64 a0 31))) _ _ l1 t108 _ ?side1 ?side2 A5.out).mono ?_); (case side1 => repeat (first | exact HR1.out | (with_reducible refine Kd.C_alloc ?_ _) | (with_reducible refine Kd.C_drewN ?_ _) | (with_reducible refine Kd.C_drew ?_))); (case side2 => exact HC1.out); rintro e w8 ⟨v109, rfl, ho0, hb⟩; have n0_ := Aside0.mk (Kd.R_lower ho0 (below_size (by repeat (first | (with_reducible first | exact HB.out | apply below_alloc | apply pw_below_drewN | apply below_drew1) | exact HB.out)))); have n1_ := Aside0.mk (below_step (by repeat (first | (with_reducible first | exact HB.out | apply below_alloc | apply pw_below_drewN | apply below_drew1) | exact HB.out)) hb); clear HB; have HO110 := n0_; have HB := n1_; clear n0_ n1_; (try clear hb); (try clear hb2); (try clear hk); (try clear hi); (try clear ho0)) | (go_at_call 12; (with_reducible refine (graph_From.calls k (wrap64 (1 + (Go.bits .and .i64 a0 31))) _ _ l1 t111 _ ?side1 ?side2 A6.out).mono ?_); (case side1 => repeat (first | exact (Kd.C_below HR1.out HB.out) | (with_reducible refine Kd.C_alloc ?_ _) | (with_reducible refine Kd.C_drewN ?_ _) | (with_reducible refine Kd.C_drew ?_))); (case side2 => exact HC1.out); rintro e w9 ⟨v112, rfl, ho0, hb⟩; have n0_ := Aside0.mk (Kd.R_below (by (with_reducible repeat (first | apply Kd.R_alloc | apply Kd.R_drewN | apply Kd.R_drew)); exact HO110.out) hb); have n1_ := Aside0.mk (Kd.S_lower ho0 (below_size (by repeat (first | (with_reducible first | exact HB.out | apply below_alloc | apply pw_below_drewN | apply below_drew1) | exact HB.out)))); have n2_ := Aside0.mk (below_step (by repeat (first | (with_reducible first | exact HB.out | apply below_alloc | apply pw_below_drewN | apply below_drew1) | exact HB.out)) hb); clear HO110; clear HB; have HO110 := n0_; have HO113 := n1_; have HB := n2_; clear n0_ n1_ n2_; (try clear hb); (try clear hb2); (try clear hk); (try clear hi); (try clear ho0))))
    (try simp only [Act.put, List.setIfInBounds_toArray, List.set_cons_zero, List.set_cons_succ])
    go_cut [43] (fun v43 wc => ∃ (kq : Nat) (x43_6 : Bool), v43 = .bool x43_6 ∧ Aside0 (ferrulelaw11_GraphCloses.j0 kq (wrap64 (1 + (Go.bits .and .i64 a0 31))) l1 t108 t111 x43_6 = some r) ∧ Aside0 (kq ≤ k) ∧ Aside0 (Kd.R Kd.bool 4 wc w.heap.size (fun _ => True) v109 t108) ∧ Aside0 (Kd.S (Kd.slice 3 (Kd.int .i64)) 27 wc w.heap.size (fun _ => True) v112 t111) ∧ Aside0 (Below w.heap.size w wc))
    case first =>
      have H := HC7.out
      clear HC7
      by_cases c10 : (t108.length : Int) = (wrap64 (1 + (Go.bits .and .i64 a0 31)))
      · rw [if_pos c10] at H
        have c10b0 : ((t108.length : Int) == (wrap64 (1 + (Go.bits .and .i64 a0 31)))) = true := beq_iff_eq.mpr c10
        have c10b1 : ((t108.length : Int) != (wrap64 (1 + (Go.bits .and .i64 a0 31)))) = false := bne_eq_false_iff_eq.mpr c10
        clear c10
        (first | rw [c10b0] | (simp only [i64_w, i32_w]; rw [c10b0]) | skip)
        by_cases c11 : (t111.length : Int) = (wrap64 (1 + (Go.bits .and .i64 a0 31)))
        · rw [if_pos c11] at H
          have c11b0 : ((t111.length : Int) == (wrap64 (1 + (Go.bits .and .i64 a0 31)))) = true := beq_iff_eq.mpr c11
          have c11b1 : ((t111.length : Int) != (wrap64 (1 + (Go.bits .and .i64 a0 31)))) = false := bne_eq_false_iff_eq.mpr c11
          clear c11
          by_cases c12 : 0 < (t108.length : Int)
          · rw [if_pos c12] at H
            have c12b0 : decide (0 < (t108.length : Int)) = true := decide_eq_true c12
            have c12b1 : decide (0 < t108.length) = true := decide_eq_true (by omega)
            clear c12
            have H' := Aside0.mk H
            clear H
            obtain ⟨Ao13, co13, eo13⟩ := Kd.R_slice HO110.out
            subst eo13
            obtain ⟨Ao14, co14, eo14⟩ := Kd.S_slice HO113.out
            subst eo14
            have p114 : 0 ≤ (0 : Int) := (by omega)
            have q114 : 0 < (t108.length : Int) := of_decide_eq_true (by first | (with_reducible assumption) | assumption)
            obtain ⟨ad114, e114, hx114_0⟩ := Kd.at_bool (Kd.R_reads' HO110.out).2.2 0 p114 q114
            cases e114
            have qi114 : (0 < t108.length) = True := eq_true (by omega)
            (try rw [show ((0 : Int)).toNat = 0 from rfl] at hx114_0)
            (try rw [Addr.add_zero'] at hx114_0)
            replace p114 := eq_true p114
            replace q114 := eq_true q114
            go_wp2
            repeat (go_quiet (fail); try go_wp2)
            go_meet
            case rel => exact ⟨_, (!(rdOf false t108 0)), (by first | rfl | (simp; done) | (simp [*]; done)), H', ⟨by first | omega | exact Nat.le_refl _⟩, ⟨by (with_reducible repeat (first | apply Kd.R_alloc | apply Kd.R_drewN | apply Kd.R_drew)); exact HO110.out⟩, ⟨by (with_reducible repeat (first | apply Kd.S_alloc | apply Kd.S_drewN | apply Kd.S_drew)); exact HO113.out⟩, ⟨by repeat (first | (with_reducible first | exact HB.out | apply below_alloc | apply pw_below_drewN | apply below_drew1) | exact HB.out)⟩⟩
          · rw [if_neg c12] at H
            exact absurd H (by simp)
        · rw [if_neg c11] at H
          have c11b0 : ((t111.length : Int) == (wrap64 (1 + (Go.bits .and .i64 a0 31)))) = false := beq_eq_false_iff_ne.mpr c11
          have c11b1 : ((t111.length : Int) != (wrap64 (1 + (Go.bits .and .i64 a0 31)))) = true := bne_iff_ne.mpr c11
          have H' := Aside0.mk H
          clear H
          obtain ⟨Ao15, co15, eo15⟩ := Kd.R_slice HO110.out
          subst eo15
          obtain ⟨Ao16, co16, eo16⟩ := Kd.S_slice HO113.out
          subst eo16
          go_wp2
          repeat (go_quiet (fail); try go_wp2)
          go_meet
          case rel => exact ⟨_, (true), (by first | rfl | (simp; done) | (simp [*]; done)), H', ⟨by first | omega | exact Nat.le_refl _⟩, ⟨by (with_reducible repeat (first | apply Kd.R_alloc | apply Kd.R_drewN | apply Kd.R_drew)); exact HO110.out⟩, ⟨by (with_reducible repeat (first | apply Kd.S_alloc | apply Kd.S_drewN | apply Kd.S_drew)); exact HO113.out⟩, ⟨by repeat (first | (with_reducible first | exact HB.out | apply below_alloc | apply pw_below_drewN | apply below_drew1) | exact HB.out)⟩⟩
      · rw [if_neg c10] at H
        have c10b0 : ((t108.length : Int) == (wrap64 (1 + (Go.bits .and .i64 a0 31)))) = false := beq_eq_false_iff_ne.mpr c10
        have c10b1 : ((t108.length : Int) != (wrap64 (1 + (Go.bits .and .i64 a0 31)))) = true := bne_iff_ne.mpr c10
        (first | rw [c10b0] | (simp only [i64_w, i32_w]; rw [c10b0]) | skip)
        have H' := Aside0.mk H
        clear H
        obtain ⟨Ao17, co17, eo17⟩ := Kd.R_slice HO110.out
        subst eo17
        go_wp2
        repeat (go_quiet (fail); try go_wp2)
        go_meet
        case rel => exact ⟨_, (true), (by first | rfl | (simp; done) | (simp [*]; done)), H', ⟨by first | omega | exact Nat.le_refl _⟩, ⟨by (with_reducible repeat (first | apply Kd.R_alloc | apply Kd.R_drewN | apply Kd.R_drew)); exact HO110.out⟩, ⟨by (with_reducible repeat (first | apply Kd.S_alloc | apply Kd.S_drewN | apply Kd.S_drew)); exact HO113.out⟩, ⟨by repeat (first | (with_reducible first | exact HB.out | apply below_alloc | apply pw_below_drewN | apply below_drew1) | exact HB.out)⟩⟩
    case rest =>
      clear HC7
      try clear c1
      try clear p1
      try clear q1
      try clear hx1
      try clear qi1
      try clear p2
      try clear c3
      try clear c4
      try clear p6
      try clear c10
      try clear c10b0
      try clear c10b1
      try clear c11
      try clear c11b0
      try clear c11b1
      try clear p11
      try clear q11
      try clear hx11
      try clear qi11
      try clear c12
      try clear c12b0
      try clear c12b1
      try clear hx114_0
      try clear p114
      try clear q114
      obtain ⟨kq, x43_6, rfl, HA, HJ6, HO_5, HO_6, HB⟩ := hcut
      cases kq with
      | zero => exact absurd HA.out (by simp [ferrulelaw11_GraphCloses.j0])
      | succ kj6 =>
        have H := HA.out
        clear HA
        simp only [ferrulelaw11_GraphCloses.j0] at H
        by_cases c18 : x43_6 = true
        · subst c18
          have H1 : (some false) = some r := by rw [if_pos rfl] at H; exact H
          clear H
          have H := H1
          clear H1
          obtain rfl := Option.some.inj H
          go_wp2
          repeat (go_quiet (fail); try go_wp2)
          go_ret
          exact ⟨by first | rfl | (simp [errW_none, errW_some] <;> rfl) | (simp [*, errW_none, errW_some] <;> rfl), by repeat (first | (with_reducible first | exact HB.out | apply below_alloc | apply pw_below_drewN | apply below_drew1) | exact HB.out)⟩
        · replace c18 := Bool.eq_false_iff.mpr c18
          subst c18
          have H1 : (ferrulelaw11_GraphCloses.l0 kj6 (wrap64 (1 + (Go.bits .and .i64 a0 31))) l1 t108 t111 0 0) = some r := by rw [if_neg (show ¬ (false = true) by decide)] at H; exact H
          clear H
          have H := H1
          clear H1
          have H' := Aside0.mk H
          clear H
          go_wp2
          repeat (go_quiet (fail); try go_wp2)
          go_loopg [7, 8] kj6 (fun kq v7 v8 w' => ∃ (x7_2 : Int) (x8_2 : Int), v7 = .int .i64 x7_2 ∧ v8 = .int .i64 x8_2 ∧ Aside0 (ferrulelaw11_GraphCloses.l0 kq (wrap64 (1 + (Go.bits .and .i64 a0 31))) l1 t108 t111 x7_2 x8_2 = some r) ∧ Aside0 (kq ≤ kj6) ∧ Aside0 (Kd.R Kd.bool 4 w' w.heap.size (fun _ => True) v109 t108) ∧ Aside0 (Kd.S (Kd.slice 3 (Kd.int .i64)) 27 w' w.heap.size (fun _ => True) v112 t111) ∧ Aside0 (Below w.heap.size w w'))
          case atStart => exact ⟨(0), (0), (by first | rfl | (simp; done) | (simp [*]; done)), (by first | rfl | (simp; done) | (simp [*]; done)), H', ⟨Nat.le_refl _⟩, ⟨by (with_reducible repeat (first | apply Kd.R_alloc | apply Kd.R_drewN | apply Kd.R_drew)); exact HO_5.out⟩, ⟨by (with_reducible repeat (first | apply Kd.S_alloc | apply Kd.S_drewN | apply Kd.S_drew)); exact HO_6.out⟩, ⟨by repeat (first | (with_reducible first | exact HB.out | apply below_alloc | apply pw_below_drewN | apply below_drew1) | exact HB.out)⟩⟩
          case round =>
            clear H'
            try clear c1
            try clear p1
            try clear q1
            try clear hx1
            try clear qi1
            try clear p2
            try clear c3
            try clear c4
            try clear p6
            try clear c10
            try clear c10b0
            try clear c10b1
            try clear c11
            try clear c11b0
            try clear c11b1
            try clear p11
            try clear q11
            try clear hx11
            try clear qi11
            try clear c12
            try clear c12b0
            try clear c12b1
            try clear c18
            try clear hx114_0
            try clear p1
            try clear p11
            try clear p114
            try clear p2
            try clear p6
            try clear q1
            try clear q11
            try clear q114
            obtain ⟨x7_2, x8_2, rfl, rfl, HA, HK2, HO_5, HO_6, HB⟩ := hrel
            cases gk with
            | zero => exact absurd HA.out (by simp [ferrulelaw11_GraphCloses.l0])
            | succ k2 =>
              have H := HA.out
              clear HA
              simp only [ferrulelaw11_GraphCloses.l0] at H
              by_cases c19 : x8_2 < (wrap64 (1 + (Go.bits .and .i64 a0 31)))
              · rw [if_pos c19] at H
                have c19b0 : decide (x8_2 < (wrap64 (1 + (Go.bits .and .i64 a0 31)))) = true := decide_eq_true c19
                clear c19
                have H' := Aside0.mk H
                clear H
                go_wp2
                repeat (go_quiet (fail); try go_wp2)
                go_loopg [7, 9, 10] k2 (fun kq v7 v9 v10 w' => ∃ (x7_3 : Int) (x9_3 : Bool) (x10_3 : Int), v7 = .int .i64 x7_3 ∧ v9 = .bool x9_3 ∧ v10 = .int .i64 x10_3 ∧ Aside0 (ferrulelaw11_GraphCloses.l1 kq (wrap64 (1 + (Go.bits .and .i64 a0 31))) l1 t108 t111 x7_3 x8_2 x9_3 x10_3 = some r) ∧ Aside0 (kq ≤ k2) ∧ Aside0 (Kd.R Kd.bool 4 w' w.heap.size (fun _ => True) v109 t108) ∧ Aside0 (Kd.S (Kd.slice 3 (Kd.int .i64)) 27 w' w.heap.size (fun _ => True) v112 t111) ∧ Aside0 (Below w.heap.size w w'))
                case atStart => exact ⟨(x7_2), ((x8_2 == 0)), (0), (by first | rfl | (simp; done) | (simp [*]; done)), (by first | rfl | (simp; done) | (simp [*]; done)), (by first | rfl | (simp; done) | (simp [*]; done)), H', ⟨Nat.le_refl _⟩, ⟨by (with_reducible repeat (first | apply Kd.R_alloc | apply Kd.R_drewN | apply Kd.R_drew)); exact HO_5.out⟩, ⟨by (with_reducible repeat (first | apply Kd.S_alloc | apply Kd.S_drewN | apply Kd.S_drew)); exact HO_6.out⟩, ⟨by repeat (first | (with_reducible first | exact HB.out | apply below_alloc | apply pw_below_drewN | apply below_drew1) | exact HB.out)⟩⟩
                case round =>
                  clear H'
                  try clear c1
                  try clear p1
                  try clear q1
                  try clear hx1
                  try clear qi1
                  try clear p2
                  try clear c3
                  try clear c4
                  try clear p6
                  try clear c10
                  try clear c10b0
                  try clear c10b1
                  try clear c11
                  try clear c11b0
                  try clear c11b1
                  try clear p11
                  try clear q11
                  try clear hx11
                  try clear qi11
                  try clear c12
                  try clear c12b0
                  try clear c12b1
                  try clear c18
                  try clear c19
                  try clear c19b0
                  try clear hx114_0
                  try clear p1
                  try clear p11
                  try clear p114
                  try clear p2
                  try clear p6
                  try clear q1
                  try clear q11
                  try clear q114
                  obtain ⟨x7_3, x9_3, x10_3, rfl, rfl, rfl, HA, HK3, HO_5, HO_6, HB⟩ := hrel
                  cases gk with
                  | zero => exact absurd HA.out (by simp [ferrulelaw11_GraphCloses.l1])
                  | succ k3 =>
                    have H := HA.out
                    clear HA
                    simp only [ferrulelaw11_GraphCloses.l1] at H
                    by_cases c20 : 0 ≤ x8_2
                    · rw [if_pos c20] at H
                      have c20b0 : decide (0 ≤ x8_2) = true := decide_eq_true c20
                      clear c20
                      by_cases c21 : x8_2 < (t111.length : Int)
                      · rw [if_pos c21] at H
                        have c21b0 : decide (x8_2 < (t111.length : Int)) = true := decide_eq_true c21
                        clear c21
                        by_cases c22 : x10_3 < ((rd_L1 t111 x8_2).length : Int)
                        · rw [if_pos c22] at H
                          have c22b0 : decide (x10_3 < ((rd_L1 t111 x8_2).length : Int)) = true := decide_eq_true c22
                          clear c22
                          by_cases c23 : x9_3 = true
                          · subst c23
                            have H1 : (if x10_3 > 0 then (if 0 ≤ x10_3 then (if 0 ≤ (wrap64 (x10_3 - 1)) then (if (wrap64 (x10_3 - 1)) < ((rd_L1 t111 x8_2).length : Int) then (if (rd (rd_L1 t111 x8_2) x10_3) ≤ (rd (rd_L1 t111 x8_2) (wrap64 (x10_3 - 1))) then (some false) else (ferrulelaw11_GraphCloses.l1 k3 (wrap64 (1 + (Go.bits .and .i64 a0 31))) l1 t108 t111 (wrap64 (x7_3 + 1)) x8_2 true (wrap64 (x10_3 + 1)))) else (none)) else (none)) else (none)) else (ferrulelaw11_GraphCloses.l1 k3 (wrap64 (1 + (Go.bits .and .i64 a0 31))) l1 t108 t111 (wrap64 (x7_3 + 1)) x8_2 true (wrap64 (x10_3 + 1)))) = some r := by rw [if_pos rfl] at H; exact H
                            clear H
                            have H := H1
                            clear H1
                            by_cases c24 : x10_3 > 0
                            · rw [if_pos c24] at H
                              have c24b0 : decide (0 < x10_3) = true := decide_eq_true c24
                              clear c24
                              by_cases c25 : 0 ≤ x10_3
                              · rw [if_pos c25] at H
                                have c25b0 : decide (0 ≤ x10_3) = true := decide_eq_true c25
                                clear c25
                                obtain ⟨ji26, hji26⟩ : ∃ j_ : Int, (wrap64 (x10_3 - 1)) = j_ := ⟨_, rfl⟩
                                replace H : (if 0 ≤ (ji26) then (if (ji26) < ((rd_L1 t111 x8_2).length : Int) then (if (rd (rd_L1 t111 x8_2) x10_3) ≤ (rd (rd_L1 t111 x8_2) (ji26)) then (some false) else (ferrulelaw11_GraphCloses.l1 k3 (wrap64 (1 + (Go.bits .and .i64 a0 31))) l1 t108 t111 (wrap64 (x7_3 + 1)) x8_2 true (wrap64 (x10_3 + 1)))) else (none)) else (none)) = some r := by first | (rw [hji26] at H; exact H) | (simp only [hji26] at H ⊢; exact H)
                                have hji26w : (IntKind.i64.wrap (x10_3 - 1)) = ji26 := (i64_w _).trans hji26
                                by_cases c27 : 0 ≤ (ji26)
                                · rw [if_pos c27] at H
                                  have c27b0 : decide (0 ≤ (ji26)) = true := decide_eq_true c27
                                  clear c27
                                  by_cases c28 : (ji26) < ((rd_L1 t111 x8_2).length : Int)
                                  · rw [if_pos c28] at H
                                    have c28b0 : decide ((ji26) < ((rd_L1 t111 x8_2).length : Int)) = true := decide_eq_true c28
                                    clear c28
                                    by_cases c29 : (rd (rd_L1 t111 x8_2) x10_3) ≤ (rd (rd_L1 t111 x8_2) (ji26))
                                    · rw [if_pos c29] at H
                                      have c29b0 : decide ((rd (rd_L1 t111 x8_2) x10_3) ≤ (rd (rd_L1 t111 x8_2) (ji26))) = true := decide_eq_true c29
                                      clear c29
                                      obtain rfl := Option.some.inj H
                                      obtain ⟨Ao30, co30, eo30⟩ := Kd.S_slice HO_6.out
                                      subst eo30
                                      have p115 : 0 ≤ (x8_2 : Int) := of_decide_eq_true (by first | (with_reducible assumption) | assumption)
                                      have q115 : x8_2 < (t111.length : Int) := of_decide_eq_true (by first | (with_reducible assumption) | assumption)
                                      obtain ⟨ad115, A115_0, c115_0, e115, hx115_0, hl115_0, hi115_0⟩ := at_L1 (Kd.S_reads' HO_6.out).2.2 x8_2 p115 q115
                                      cases e115
                                      obtain ⟨ce115, hce115, hMe115, hcc115⟩ := Kd.S_get HO_6.out [] x8_2 p115 (by first | exact q115 | exact of_decide_eq_true (by first | (with_reducible assumption) | assumption) | (have e_ := (Kd.S_reads' HO_6.out).1; omega))
                                      obtain ⟨ve115_0, rfl, ge115_0⟩ := hMe115
                                      have hv115_0 := hcc115 0 _ rfl
                                      rw [Nat.add_zero, show ((Kd.slice 3 (Kd.int .i64))).sz = 1 from rfl, Nat.mul_one] at hv115_0
                                      replace hv115_0 := Option.some.inj (hv115_0.symm.trans hx115_0)
                                      rw [hv115_0] at ge115_0
                                      have HL115_0 := Aside0.mk (show Kd.R (Kd.int .i64) 3 _ _ _ _ (rd_L1 t111 x8_2) from ge115_0)
                                      clear hv115_0 ge115_0
                                      clear hcc115 hce115
                                      have HR115_0 := Aside0.mk hi115_0
                                      have HC115_0 := Aside0.mk hl115_0
                                      clear hi115_0 hl115_0
                                      replace p115 := eq_true p115
                                      replace q115 := eq_true q115
                                      have p116 : 0 ≤ (x8_2 : Int) := of_decide_eq_true (by first | (with_reducible assumption) | assumption)
                                      have q116 : x8_2 < (t111.length : Int) := of_decide_eq_true (by first | (with_reducible assumption) | assumption)
                                      obtain ⟨ad116, A116_0, c116_0, e116, hx116_0, hl116_0, hi116_0⟩ := at_L1 (Kd.S_reads' HO_6.out).2.2 x8_2 p116 q116
                                      obtain rfl : ad115 = ad116 := (by injection e116)
                                      obtain ⟨ce116, hce116, hMe116, hcc116⟩ := Kd.S_get HO_6.out [] x8_2 p116 (by first | exact q116 | exact of_decide_eq_true (by first | (with_reducible assumption) | assumption) | (have e_ := (Kd.S_reads' HO_6.out).1; omega))
                                      obtain ⟨ve116_0, rfl, ge116_0⟩ := hMe116
                                      have hv116_0 := hcc116 0 _ rfl
                                      rw [Nat.add_zero, show ((Kd.slice 3 (Kd.int .i64))).sz = 1 from rfl, Nat.mul_one] at hv116_0
                                      replace hv116_0 := Option.some.inj (hv116_0.symm.trans hx116_0)
                                      rw [hv116_0] at ge116_0
                                      have HL116_0 := Aside0.mk (show Kd.R (Kd.int .i64) 3 _ _ _ _ (rd_L1 t111 x8_2) from ge116_0)
                                      clear hv116_0 ge116_0
                                      clear hcc116 hce116
                                      have HR116_0 := Aside0.mk hi116_0
                                      have HC116_0 := Aside0.mk hl116_0
                                      clear hi116_0 hl116_0
                                      replace p116 := eq_true p116
                                      replace q116 := eq_true q116
                                      have ea_ := Option.some.inj (hx115_0.symm.trans hx116_0)
                                      injection ea_ with ea_ en_ ec_
                                      subst ea_
                                      subst ec_
                                      clear en_
                                      have p117 : 0 ≤ (x10_3 : Int) := of_decide_eq_true (by first | (with_reducible assumption) | assumption)
                                      have q117 : x10_3 < ((rd_L1 t111 x8_2).length : Int) := of_decide_eq_true (by first | (with_reducible assumption) | assumption)
                                      obtain ⟨ad117, e117, hx117_0⟩ := Kd.at_int (by repeat (first | (with_reducible exact HR116_0.out) | (with_reducible refine Kd.C_alloc ?_ _) | (with_reducible refine Kd.C_drewN ?_ _) | (with_reducible refine Kd.C_drew ?_) | exact HR116_0.out)) x10_3 p117 q117
                                      cases e117
                                      replace p117 := eq_true p117
                                      replace q117 := eq_true q117
                                      have p118 : 0 ≤ (x8_2 : Int) := of_decide_eq_true (by first | (with_reducible assumption) | assumption)
                                      have q118 : x8_2 < (t111.length : Int) := of_decide_eq_true (by first | (with_reducible assumption) | assumption)
                                      obtain ⟨ad118, A118_0, c118_0, e118, hx118_0, hl118_0, hi118_0⟩ := at_L1 (Kd.S_reads' HO_6.out).2.2 x8_2 p118 q118
                                      obtain rfl : ad115 = ad118 := (by injection e118)
                                      obtain ⟨ce118, hce118, hMe118, hcc118⟩ := Kd.S_get HO_6.out [] x8_2 p118 (by first | exact q118 | exact of_decide_eq_true (by first | (with_reducible assumption) | assumption) | (have e_ := (Kd.S_reads' HO_6.out).1; omega))
                                      obtain ⟨ve118_0, rfl, ge118_0⟩ := hMe118
                                      have hv118_0 := hcc118 0 _ rfl
                                      rw [Nat.add_zero, show ((Kd.slice 3 (Kd.int .i64))).sz = 1 from rfl, Nat.mul_one] at hv118_0
                                      replace hv118_0 := Option.some.inj (hv118_0.symm.trans hx118_0)
                                      rw [hv118_0] at ge118_0
                                      have HL118_0 := Aside0.mk (show Kd.R (Kd.int .i64) 3 _ _ _ _ (rd_L1 t111 x8_2) from ge118_0)
                                      clear hv118_0 ge118_0
                                      clear hcc118 hce118
                                      have HR118_0 := Aside0.mk hi118_0
                                      have HC118_0 := Aside0.mk hl118_0
                                      clear hi118_0 hl118_0
                                      replace p118 := eq_true p118
                                      replace q118 := eq_true q118
                                      have ea_ := Option.some.inj (hx115_0.symm.trans hx118_0)
                                      injection ea_ with ea_ en_ ec_
                                      subst ea_
                                      subst ec_
                                      clear en_
                                      have p119 : 0 ≤ ((ji26) : Int) := of_decide_eq_true (by first | (with_reducible assumption) | assumption)
                                      have q119 : (ji26) < ((rd_L1 t111 x8_2).length : Int) := of_decide_eq_true (by first | (with_reducible assumption) | assumption)
                                      obtain ⟨ad119, e119, hx119_0⟩ := Kd.at_int (by repeat (first | (with_reducible exact HR118_0.out) | (with_reducible refine Kd.C_alloc ?_ _) | (with_reducible refine Kd.C_drewN ?_ _) | (with_reducible refine Kd.C_drew ?_) | exact HR118_0.out)) (ji26) p119 q119
                                      cases e119
                                      replace p119 := eq_true p119
                                      replace q119 := eq_true q119
                                      go_wp2
                                      repeat (go_quiet (fail); try go_wp2)
                                      go_ret
                                      exact ⟨by first | rfl | (simp [errW_none, errW_some] <;> rfl) | (simp only [← hji26]; first | rfl | (simp [errW_none, errW_some] <;> rfl)) | (simp [*, errW_none, errW_some] <;> rfl), by repeat (first | (with_reducible first | exact HB.out | apply below_alloc | apply pw_below_drewN | apply below_drew1) | exact HB.out)⟩
                                    · rw [if_neg c29] at H
                                      have c29b0 : decide ((rd (rd_L1 t111 x8_2) x10_3) ≤ (rd (rd_L1 t111 x8_2) (ji26))) = false := decide_eq_false c29
                                      clear c29
                                      have H' := Aside0.mk H
                                      clear H
                                      obtain ⟨Ao31, co31, eo31⟩ := Kd.S_slice HO_6.out
                                      subst eo31
                                      have p115 : 0 ≤ (x8_2 : Int) := of_decide_eq_true (by first | (with_reducible assumption) | assumption)
                                      have q115 : x8_2 < (t111.length : Int) := of_decide_eq_true (by first | (with_reducible assumption) | assumption)
                                      obtain ⟨ad115, A115_0, c115_0, e115, hx115_0, hl115_0, hi115_0⟩ := at_L1 (Kd.S_reads' HO_6.out).2.2 x8_2 p115 q115
                                      cases e115
                                      obtain ⟨ce115, hce115, hMe115, hcc115⟩ := Kd.S_get HO_6.out [] x8_2 p115 (by first | exact q115 | exact of_decide_eq_true (by first | (with_reducible assumption) | assumption) | (have e_ := (Kd.S_reads' HO_6.out).1; omega))
                                      obtain ⟨ve115_0, rfl, ge115_0⟩ := hMe115
                                      have hv115_0 := hcc115 0 _ rfl
                                      rw [Nat.add_zero, show ((Kd.slice 3 (Kd.int .i64))).sz = 1 from rfl, Nat.mul_one] at hv115_0
                                      replace hv115_0 := Option.some.inj (hv115_0.symm.trans hx115_0)
                                      rw [hv115_0] at ge115_0
                                      have HL115_0 := Aside0.mk (show Kd.R (Kd.int .i64) 3 _ _ _ _ (rd_L1 t111 x8_2) from ge115_0)
                                      clear hv115_0 ge115_0
                                      clear hcc115 hce115
                                      have HR115_0 := Aside0.mk hi115_0
                                      have HC115_0 := Aside0.mk hl115_0
                                      clear hi115_0 hl115_0
                                      replace p115 := eq_true p115
                                      replace q115 := eq_true q115
                                      have p116 : 0 ≤ (x8_2 : Int) := of_decide_eq_true (by first | (with_reducible assumption) | assumption)
                                      have q116 : x8_2 < (t111.length : Int) := of_decide_eq_true (by first | (with_reducible assumption) | assumption)
                                      obtain ⟨ad116, A116_0, c116_0, e116, hx116_0, hl116_0, hi116_0⟩ := at_L1 (Kd.S_reads' HO_6.out).2.2 x8_2 p116 q116
                                      obtain rfl : ad115 = ad116 := (by injection e116)
                                      obtain ⟨ce116, hce116, hMe116, hcc116⟩ := Kd.S_get HO_6.out [] x8_2 p116 (by first | exact q116 | exact of_decide_eq_true (by first | (with_reducible assumption) | assumption) | (have e_ := (Kd.S_reads' HO_6.out).1; omega))
                                      obtain ⟨ve116_0, rfl, ge116_0⟩ := hMe116
                                      have hv116_0 := hcc116 0 _ rfl
                                      rw [Nat.add_zero, show ((Kd.slice 3 (Kd.int .i64))).sz = 1 from rfl, Nat.mul_one] at hv116_0
                                      replace hv116_0 := Option.some.inj (hv116_0.symm.trans hx116_0)
                                      rw [hv116_0] at ge116_0
                                      have HL116_0 := Aside0.mk (show Kd.R (Kd.int .i64) 3 _ _ _ _ (rd_L1 t111 x8_2) from ge116_0)
                                      clear hv116_0 ge116_0
                                      clear hcc116 hce116
                                      have HR116_0 := Aside0.mk hi116_0
                                      have HC116_0 := Aside0.mk hl116_0
                                      clear hi116_0 hl116_0
                                      replace p116 := eq_true p116
                                      replace q116 := eq_true q116
                                      have ea_ := Option.some.inj (hx115_0.symm.trans hx116_0)
                                      injection ea_ with ea_ en_ ec_
                                      subst ea_
                                      subst ec_
                                      clear en_
                                      have p117 : 0 ≤ (x10_3 : Int) := of_decide_eq_true (by first | (with_reducible assumption) | assumption)
                                      have q117 : x10_3 < ((rd_L1 t111 x8_2).length : Int) := of_decide_eq_true (by first | (with_reducible assumption) | assumption)
                                      obtain ⟨ad117, e117, hx117_0⟩ := Kd.at_int (by repeat (first | (with_reducible exact HR116_0.out) | (with_reducible refine Kd.C_alloc ?_ _) | (with_reducible refine Kd.C_drewN ?_ _) | (with_reducible refine Kd.C_drew ?_) | exact HR116_0.out)) x10_3 p117 q117
                                      cases e117
                                      replace p117 := eq_true p117
                                      replace q117 := eq_true q117
                                      have p118 : 0 ≤ (x8_2 : Int) := of_decide_eq_true (by first | (with_reducible assumption) | assumption)
                                      have q118 : x8_2 < (t111.length : Int) := of_decide_eq_true (by first | (with_reducible assumption) | assumption)
                                      obtain ⟨ad118, A118_0, c118_0, e118, hx118_0, hl118_0, hi118_0⟩ := at_L1 (Kd.S_reads' HO_6.out).2.2 x8_2 p118 q118
                                      obtain rfl : ad115 = ad118 := (by injection e118)
                                      obtain ⟨ce118, hce118, hMe118, hcc118⟩ := Kd.S_get HO_6.out [] x8_2 p118 (by first | exact q118 | exact of_decide_eq_true (by first | (with_reducible assumption) | assumption) | (have e_ := (Kd.S_reads' HO_6.out).1; omega))
                                      obtain ⟨ve118_0, rfl, ge118_0⟩ := hMe118
                                      have hv118_0 := hcc118 0 _ rfl
                                      rw [Nat.add_zero, show ((Kd.slice 3 (Kd.int .i64))).sz = 1 from rfl, Nat.mul_one] at hv118_0
                                      replace hv118_0 := Option.some.inj (hv118_0.symm.trans hx118_0)
                                      rw [hv118_0] at ge118_0
                                      have HL118_0 := Aside0.mk (show Kd.R (Kd.int .i64) 3 _ _ _ _ (rd_L1 t111 x8_2) from ge118_0)
                                      clear hv118_0 ge118_0
                                      clear hcc118 hce118
                                      have HR118_0 := Aside0.mk hi118_0
                                      have HC118_0 := Aside0.mk hl118_0
                                      clear hi118_0 hl118_0
                                      replace p118 := eq_true p118
                                      replace q118 := eq_true q118
                                      have ea_ := Option.some.inj (hx115_0.symm.trans hx118_0)
                                      injection ea_ with ea_ en_ ec_
                                      subst ea_
                                      subst ec_
                                      clear en_
                                      have p119 : 0 ≤ ((ji26) : Int) := of_decide_eq_true (by first | (with_reducible assumption) | assumption)
                                      have q119 : (ji26) < ((rd_L1 t111 x8_2).length : Int) := of_decide_eq_true (by first | (with_reducible assumption) | assumption)
                                      obtain ⟨ad119, e119, hx119_0⟩ := Kd.at_int (by repeat (first | (with_reducible exact HR118_0.out) | (with_reducible refine Kd.C_alloc ?_ _) | (with_reducible refine Kd.C_drewN ?_ _) | (with_reducible refine Kd.C_drew ?_) | exact HR118_0.out)) (ji26) p119 q119
                                      cases e119
                                      replace p119 := eq_true p119
                                      replace q119 := eq_true q119
                                      go_wp2
                                      repeat (go_quiet (fail); try go_wp2)
                                      go_roundg k3
                                      case measure => have := HJ6.out; have := HK2.out; have := HK3.out; omega
                                      case rel => exact ⟨(wrap64 (x7_3 + 1)), (true), (wrap64 (x10_3 + 1)), (by first | rfl | (simp; done) | (simp [*]; done)), (by first | rfl | (simp; done) | (simp [*]; done)), (by first | rfl | (simp; done) | (simp [*]; done)), H', ⟨by have := HJ6.out; have := HK2.out; have := HK3.out; omega⟩, ⟨by (with_reducible repeat (first | apply Kd.R_alloc | apply Kd.R_drewN | apply Kd.R_drew)); exact HO_5.out⟩, ⟨by (with_reducible repeat (first | apply Kd.S_alloc | apply Kd.S_drewN | apply Kd.S_drew)); exact HO_6.out⟩, ⟨by repeat (first | (with_reducible first | exact HB.out | apply below_alloc | apply pw_below_drewN | apply below_drew1) | exact HB.out)⟩⟩
                                  · rw [if_neg c28] at H
                                    exact absurd H (by simp)
                                · rw [if_neg c27] at H
                                  exact absurd H (by simp)
                              · rw [if_neg c25] at H
                                exact absurd H (by simp)
                            · rw [if_neg c24] at H
                              have c24b0 : decide (0 < x10_3) = false := decide_eq_false c24
                              clear c24
                              have H' := Aside0.mk H
                              clear H
                              obtain ⟨Ao32, co32, eo32⟩ := Kd.S_slice HO_6.out
                              subst eo32
                              have p115 : 0 ≤ (x8_2 : Int) := of_decide_eq_true (by first | (with_reducible assumption) | assumption)
                              have q115 : x8_2 < (t111.length : Int) := of_decide_eq_true (by first | (with_reducible assumption) | assumption)
                              obtain ⟨ad115, A115_0, c115_0, e115, hx115_0, hl115_0, hi115_0⟩ := at_L1 (Kd.S_reads' HO_6.out).2.2 x8_2 p115 q115
                              cases e115
                              obtain ⟨ce115, hce115, hMe115, hcc115⟩ := Kd.S_get HO_6.out [] x8_2 p115 (by first | exact q115 | exact of_decide_eq_true (by first | (with_reducible assumption) | assumption) | (have e_ := (Kd.S_reads' HO_6.out).1; omega))
                              obtain ⟨ve115_0, rfl, ge115_0⟩ := hMe115
                              have hv115_0 := hcc115 0 _ rfl
                              rw [Nat.add_zero, show ((Kd.slice 3 (Kd.int .i64))).sz = 1 from rfl, Nat.mul_one] at hv115_0
                              replace hv115_0 := Option.some.inj (hv115_0.symm.trans hx115_0)
                              rw [hv115_0] at ge115_0
                              have HL115_0 := Aside0.mk (show Kd.R (Kd.int .i64) 3 _ _ _ _ (rd_L1 t111 x8_2) from ge115_0)
                              clear hv115_0 ge115_0
                              clear hcc115 hce115
                              have HR115_0 := Aside0.mk hi115_0
                              have HC115_0 := Aside0.mk hl115_0
                              clear hi115_0 hl115_0
                              replace p115 := eq_true p115
                              replace q115 := eq_true q115
                              go_wp2
                              repeat (go_quiet (fail); try go_wp2)
                              go_roundg k3
                              case measure => have := HJ6.out; have := HK2.out; have := HK3.out; omega
                              case rel => exact ⟨(wrap64 (x7_3 + 1)), (true), (wrap64 (x10_3 + 1)), (by first | rfl | (simp; done) | (simp [*]; done)), (by first | rfl | (simp; done) | (simp [*]; done)), (by first | rfl | (simp; done) | (simp [*]; done)), H', ⟨by have := HJ6.out; have := HK2.out; have := HK3.out; omega⟩, ⟨by (with_reducible repeat (first | apply Kd.R_alloc | apply Kd.R_drewN | apply Kd.R_drew)); exact HO_5.out⟩, ⟨by (with_reducible repeat (first | apply Kd.S_alloc | apply Kd.S_drewN | apply Kd.S_drew)); exact HO_6.out⟩, ⟨by repeat (first | (with_reducible first | exact HB.out | apply below_alloc | apply pw_below_drewN | apply below_drew1) | exact HB.out)⟩⟩
                          · replace c23 := Bool.eq_false_iff.mpr c23
                            subst c23
                            have H1 : (if 0 ≤ x10_3 then (if 0 ≤ (rd (rd_L1 t111 x8_2) x10_3) then (if (rd (rd_L1 t111 x8_2) x10_3) < (t108.length : Int) then (if x10_3 > 0 then (if 0 ≤ (wrap64 (x10_3 - 1)) then (if (wrap64 (x10_3 - 1)) < ((rd_L1 t111 x8_2).length : Int) then (if (rd (rd_L1 t111 x8_2) x10_3) ≤ (rd (rd_L1 t111 x8_2) (wrap64 (x10_3 - 1))) then (some false) else (ferrulelaw11_GraphCloses.l1 k3 (wrap64 (1 + (Go.bits .and .i64 a0 31))) l1 t108 t111 (wrap64 (x7_3 + 1)) x8_2 (rdOf false t108 (rd (rd_L1 t111 x8_2) x10_3)) (wrap64 (x10_3 + 1)))) else (none)) else (none)) else (ferrulelaw11_GraphCloses.l1 k3 (wrap64 (1 + (Go.bits .and .i64 a0 31))) l1 t108 t111 (wrap64 (x7_3 + 1)) x8_2 (rdOf false t108 (rd (rd_L1 t111 x8_2) x10_3)) (wrap64 (x10_3 + 1)))) else (none)) else (none)) else (none)) = some r := by rw [if_neg (show ¬ (false = true) by decide)] at H; exact H
                            clear H
                            have H := H1
                            clear H1
                            by_cases c33 : 0 ≤ x10_3
                            · rw [if_pos c33] at H
                              have c33b0 : decide (0 ≤ x10_3) = true := decide_eq_true c33
                              clear c33
                              by_cases c34 : 0 ≤ (rd (rd_L1 t111 x8_2) x10_3)
                              · rw [if_pos c34] at H
                                have c34b0 : decide (0 ≤ (rd (rd_L1 t111 x8_2) x10_3)) = true := decide_eq_true c34
                                clear c34
                                by_cases c35 : (rd (rd_L1 t111 x8_2) x10_3) < (t108.length : Int)
                                · rw [if_pos c35] at H
                                  have c35b0 : decide ((rd (rd_L1 t111 x8_2) x10_3) < (t108.length : Int)) = true := decide_eq_true c35
                                  clear c35
                                  by_cases c36 : x10_3 > 0
                                  · rw [if_pos c36] at H
                                    have c36b0 : decide (0 < x10_3) = true := decide_eq_true c36
                                    clear c36
                                    obtain ⟨ji37, hji37⟩ : ∃ j_ : Int, (wrap64 (x10_3 - 1)) = j_ := ⟨_, rfl⟩
                                    replace H : (if 0 ≤ (ji37) then (if (ji37) < ((rd_L1 t111 x8_2).length : Int) then (if (rd (rd_L1 t111 x8_2) x10_3) ≤ (rd (rd_L1 t111 x8_2) (ji37)) then (some false) else (ferrulelaw11_GraphCloses.l1 k3 (wrap64 (1 + (Go.bits .and .i64 a0 31))) l1 t108 t111 (wrap64 (x7_3 + 1)) x8_2 (rdOf false t108 (rd (rd_L1 t111 x8_2) x10_3)) (wrap64 (x10_3 + 1)))) else (none)) else (none)) = some r := by first | (rw [hji37] at H; exact H) | (simp only [hji37] at H ⊢; exact H)
                                    have hji37w : (IntKind.i64.wrap (x10_3 - 1)) = ji37 := (i64_w _).trans hji37
                                    by_cases c38 : 0 ≤ (ji37)
                                    · rw [if_pos c38] at H
                                      have c38b0 : decide (0 ≤ (ji37)) = true := decide_eq_true c38
                                      clear c38
                                      by_cases c39 : (ji37) < ((rd_L1 t111 x8_2).length : Int)
                                      · rw [if_pos c39] at H
                                        have c39b0 : decide ((ji37) < ((rd_L1 t111 x8_2).length : Int)) = true := decide_eq_true c39
                                        clear c39
                                        by_cases c40 : (rd (rd_L1 t111 x8_2) x10_3) ≤ (rd (rd_L1 t111 x8_2) (ji37))
                                        · rw [if_pos c40] at H
                                          have c40b0 : decide ((rd (rd_L1 t111 x8_2) x10_3) ≤ (rd (rd_L1 t111 x8_2) (ji37))) = true := decide_eq_true c40
                                          clear c40
                                          obtain rfl := Option.some.inj H
                                          obtain ⟨Ao41, co41, eo41⟩ := Kd.S_slice HO_6.out
                                          subst eo41
                                          have p115 : 0 ≤ (x8_2 : Int) := of_decide_eq_true (by first | (with_reducible assumption) | assumption)
                                          have q115 : x8_2 < (t111.length : Int) := of_decide_eq_true (by first | (with_reducible assumption) | assumption)
                                          obtain ⟨ad115, A115_0, c115_0, e115, hx115_0, hl115_0, hi115_0⟩ := at_L1 (Kd.S_reads' HO_6.out).2.2 x8_2 p115 q115
                                          cases e115
                                          obtain ⟨ce115, hce115, hMe115, hcc115⟩ := Kd.S_get HO_6.out [] x8_2 p115 (by first | exact q115 | exact of_decide_eq_true (by first | (with_reducible assumption) | assumption) | (have e_ := (Kd.S_reads' HO_6.out).1; omega))
                                          obtain ⟨ve115_0, rfl, ge115_0⟩ := hMe115
                                          have hv115_0 := hcc115 0 _ rfl
                                          rw [Nat.add_zero, show ((Kd.slice 3 (Kd.int .i64))).sz = 1 from rfl, Nat.mul_one] at hv115_0
                                          replace hv115_0 := Option.some.inj (hv115_0.symm.trans hx115_0)
                                          rw [hv115_0] at ge115_0
                                          have HL115_0 := Aside0.mk (show Kd.R (Kd.int .i64) 3 _ _ _ _ (rd_L1 t111 x8_2) from ge115_0)
                                          clear hv115_0 ge115_0
                                          clear hcc115 hce115
                                          have HR115_0 := Aside0.mk hi115_0
                                          have HC115_0 := Aside0.mk hl115_0
                                          clear hi115_0 hl115_0
                                          replace p115 := eq_true p115
                                          replace q115 := eq_true q115
                                          have p120 : 0 ≤ (x8_2 : Int) := of_decide_eq_true (by first | (with_reducible assumption) | assumption)
                                          have q120 : x8_2 < (t111.length : Int) := of_decide_eq_true (by first | (with_reducible assumption) | assumption)
                                          obtain ⟨ad120, A120_0, c120_0, e120, hx120_0, hl120_0, hi120_0⟩ := at_L1 (Kd.S_reads' HO_6.out).2.2 x8_2 p120 q120
                                          obtain rfl : ad115 = ad120 := (by injection e120)
                                          obtain ⟨ce120, hce120, hMe120, hcc120⟩ := Kd.S_get HO_6.out [] x8_2 p120 (by first | exact q120 | exact of_decide_eq_true (by first | (with_reducible assumption) | assumption) | (have e_ := (Kd.S_reads' HO_6.out).1; omega))
                                          obtain ⟨ve120_0, rfl, ge120_0⟩ := hMe120
                                          have hv120_0 := hcc120 0 _ rfl
                                          rw [Nat.add_zero, show ((Kd.slice 3 (Kd.int .i64))).sz = 1 from rfl, Nat.mul_one] at hv120_0
                                          replace hv120_0 := Option.some.inj (hv120_0.symm.trans hx120_0)
                                          rw [hv120_0] at ge120_0
                                          have HL120_0 := Aside0.mk (show Kd.R (Kd.int .i64) 3 _ _ _ _ (rd_L1 t111 x8_2) from ge120_0)
                                          clear hv120_0 ge120_0
                                          clear hcc120 hce120
                                          have HR120_0 := Aside0.mk hi120_0
                                          have HC120_0 := Aside0.mk hl120_0
                                          clear hi120_0 hl120_0
                                          replace p120 := eq_true p120
                                          replace q120 := eq_true q120
                                          have ea_ := Option.some.inj (hx115_0.symm.trans hx120_0)
                                          injection ea_ with ea_ en_ ec_
                                          subst ea_
                                          subst ec_
                                          clear en_
                                          have p121 : 0 ≤ (x10_3 : Int) := of_decide_eq_true (by first | (with_reducible assumption) | assumption)
                                          have q121 : x10_3 < ((rd_L1 t111 x8_2).length : Int) := of_decide_eq_true (by first | (with_reducible assumption) | assumption)
                                          obtain ⟨ad121, e121, hx121_0⟩ := Kd.at_int (by repeat (first | (with_reducible exact HR120_0.out) | (with_reducible refine Kd.C_alloc ?_ _) | (with_reducible refine Kd.C_drewN ?_ _) | (with_reducible refine Kd.C_drew ?_) | exact HR120_0.out)) x10_3 p121 q121
                                          cases e121
                                          replace p121 := eq_true p121
                                          replace q121 := eq_true q121
                                          obtain ⟨Ao42, co42, eo42⟩ := Kd.R_slice HO_5.out
                                          subst eo42
                                          have p122 : 0 ≤ ((rd (rd_L1 t111 x8_2) x10_3) : Int) := of_decide_eq_true (by first | (with_reducible assumption) | assumption)
                                          have q122 : (rd (rd_L1 t111 x8_2) x10_3) < (t108.length : Int) := of_decide_eq_true (by first | (with_reducible assumption) | assumption)
                                          obtain ⟨ad122, e122, hx122_0⟩ := Kd.at_bool (Kd.R_reads' HO_5.out).2.2 (rd (rd_L1 t111 x8_2) x10_3) p122 q122
                                          cases e122
                                          replace p122 := eq_true p122
                                          replace q122 := eq_true q122
                                          have p123 : 0 ≤ (x8_2 : Int) := of_decide_eq_true (by first | (with_reducible assumption) | assumption)
                                          have q123 : x8_2 < (t111.length : Int) := of_decide_eq_true (by first | (with_reducible assumption) | assumption)
                                          obtain ⟨ad123, A123_0, c123_0, e123, hx123_0, hl123_0, hi123_0⟩ := at_L1 (Kd.S_reads' HO_6.out).2.2 x8_2 p123 q123
                                          obtain rfl : ad115 = ad123 := (by injection e123)
                                          obtain ⟨ce123, hce123, hMe123, hcc123⟩ := Kd.S_get HO_6.out [] x8_2 p123 (by first | exact q123 | exact of_decide_eq_true (by first | (with_reducible assumption) | assumption) | (have e_ := (Kd.S_reads' HO_6.out).1; omega))
                                          obtain ⟨ve123_0, rfl, ge123_0⟩ := hMe123
                                          have hv123_0 := hcc123 0 _ rfl
                                          rw [Nat.add_zero, show ((Kd.slice 3 (Kd.int .i64))).sz = 1 from rfl, Nat.mul_one] at hv123_0
                                          replace hv123_0 := Option.some.inj (hv123_0.symm.trans hx123_0)
                                          rw [hv123_0] at ge123_0
                                          have HL123_0 := Aside0.mk (show Kd.R (Kd.int .i64) 3 _ _ _ _ (rd_L1 t111 x8_2) from ge123_0)
                                          clear hv123_0 ge123_0
                                          clear hcc123 hce123
                                          have HR123_0 := Aside0.mk hi123_0
                                          have HC123_0 := Aside0.mk hl123_0
                                          clear hi123_0 hl123_0
                                          replace p123 := eq_true p123
                                          replace q123 := eq_true q123
                                          have ea_ := Option.some.inj (hx115_0.symm.trans hx123_0)
                                          injection ea_ with ea_ en_ ec_
                                          subst ea_
                                          subst ec_
                                          clear en_
                                          have p124 : 0 ≤ (x10_3 : Int) := of_decide_eq_true (by first | (with_reducible assumption) | assumption)
                                          have q124 : x10_3 < ((rd_L1 t111 x8_2).length : Int) := of_decide_eq_true (by first | (with_reducible assumption) | assumption)
                                          obtain ⟨ad124, e124, hx124_0⟩ := Kd.at_int (by repeat (first | (with_reducible exact HR123_0.out) | (with_reducible refine Kd.C_alloc ?_ _) | (with_reducible refine Kd.C_drewN ?_ _) | (with_reducible refine Kd.C_drew ?_) | exact HR123_0.out)) x10_3 p124 q124
                                          cases e124
                                          replace p124 := eq_true p124
                                          replace q124 := eq_true q124
                                          have p125 : 0 ≤ (x8_2 : Int) := of_decide_eq_true (by first | (with_reducible assumption) | assumption)
                                          have q125 : x8_2 < (t111.length : Int) := of_decide_eq_true (by first | (with_reducible assumption) | assumption)
                                          obtain ⟨ad125, A125_0, c125_0, e125, hx125_0, hl125_0, hi125_0⟩ := at_L1 (Kd.S_reads' HO_6.out).2.2 x8_2 p125 q125
                                          obtain rfl : ad115 = ad125 := (by injection e125)
                                          obtain ⟨ce125, hce125, hMe125, hcc125⟩ := Kd.S_get HO_6.out [] x8_2 p125 (by first | exact q125 | exact of_decide_eq_true (by first | (with_reducible assumption) | assumption) | (have e_ := (Kd.S_reads' HO_6.out).1; omega))
                                          obtain ⟨ve125_0, rfl, ge125_0⟩ := hMe125
                                          have hv125_0 := hcc125 0 _ rfl
                                          rw [Nat.add_zero, show ((Kd.slice 3 (Kd.int .i64))).sz = 1 from rfl, Nat.mul_one] at hv125_0
                                          replace hv125_0 := Option.some.inj (hv125_0.symm.trans hx125_0)
                                          rw [hv125_0] at ge125_0
                                          have HL125_0 := Aside0.mk (show Kd.R (Kd.int .i64) 3 _ _ _ _ (rd_L1 t111 x8_2) from ge125_0)
                                          clear hv125_0 ge125_0
                                          clear hcc125 hce125
                                          have HR125_0 := Aside0.mk hi125_0
                                          have HC125_0 := Aside0.mk hl125_0
                                          clear hi125_0 hl125_0
                                          replace p125 := eq_true p125
                                          replace q125 := eq_true q125
                                          have ea_ := Option.some.inj (hx115_0.symm.trans hx125_0)
                                          injection ea_ with ea_ en_ ec_
                                          subst ea_
                                          subst ec_
                                          clear en_
                                          have p126 : 0 ≤ ((ji37) : Int) := of_decide_eq_true (by first | (with_reducible assumption) | assumption)
                                          have q126 : (ji37) < ((rd_L1 t111 x8_2).length : Int) := of_decide_eq_true (by first | (with_reducible assumption) | assumption)
                                          obtain ⟨ad126, e126, hx126_0⟩ := Kd.at_int (by repeat (first | (with_reducible exact HR125_0.out) | (with_reducible refine Kd.C_alloc ?_ _) | (with_reducible refine Kd.C_drewN ?_ _) | (with_reducible refine Kd.C_drew ?_) | exact HR125_0.out)) (ji37) p126 q126
                                          cases e126
                                          replace p126 := eq_true p126
                                          replace q126 := eq_true q126
                                          go_wp2
                                          repeat (go_quiet (fail); try go_wp2)
                                          go_ret
                                          exact ⟨by first | rfl | (simp [errW_none, errW_some] <;> rfl) | (simp only [← hji37]; first | rfl | (simp [errW_none, errW_some] <;> rfl)) | (simp [*, errW_none, errW_some] <;> rfl), by repeat (first | (with_reducible first | exact HB.out | apply below_alloc | apply pw_below_drewN | apply below_drew1) | exact HB.out)⟩
                                        · rw [if_neg c40] at H
                                          have c40b0 : decide ((rd (rd_L1 t111 x8_2) x10_3) ≤ (rd (rd_L1 t111 x8_2) (ji37))) = false := decide_eq_false c40
                                          clear c40
                                          have H' := Aside0.mk H
                                          clear H
                                          obtain ⟨Ao43, co43, eo43⟩ := Kd.S_slice HO_6.out
                                          subst eo43
                                          have p115 : 0 ≤ (x8_2 : Int) := of_decide_eq_true (by first | (with_reducible assumption) | assumption)
                                          have q115 : x8_2 < (t111.length : Int) := of_decide_eq_true (by first | (with_reducible assumption) | assumption)
                                          obtain ⟨ad115, A115_0, c115_0, e115, hx115_0, hl115_0, hi115_0⟩ := at_L1 (Kd.S_reads' HO_6.out).2.2 x8_2 p115 q115
                                          cases e115
                                          obtain ⟨ce115, hce115, hMe115, hcc115⟩ := Kd.S_get HO_6.out [] x8_2 p115 (by first | exact q115 | exact of_decide_eq_true (by first | (with_reducible assumption) | assumption) | (have e_ := (Kd.S_reads' HO_6.out).1; omega))
                                          obtain ⟨ve115_0, rfl, ge115_0⟩ := hMe115
                                          have hv115_0 := hcc115 0 _ rfl
                                          rw [Nat.add_zero, show ((Kd.slice 3 (Kd.int .i64))).sz = 1 from rfl, Nat.mul_one] at hv115_0
                                          replace hv115_0 := Option.some.inj (hv115_0.symm.trans hx115_0)
                                          rw [hv115_0] at ge115_0
                                          have HL115_0 := Aside0.mk (show Kd.R (Kd.int .i64) 3 _ _ _ _ (rd_L1 t111 x8_2) from ge115_0)
                                          clear hv115_0 ge115_0
                                          clear hcc115 hce115
                                          have HR115_0 := Aside0.mk hi115_0
                                          have HC115_0 := Aside0.mk hl115_0
                                          clear hi115_0 hl115_0
                                          replace p115 := eq_true p115
                                          replace q115 := eq_true q115
                                          have p120 : 0 ≤ (x8_2 : Int) := of_decide_eq_true (by first | (with_reducible assumption) | assumption)
                                          have q120 : x8_2 < (t111.length : Int) := of_decide_eq_true (by first | (with_reducible assumption) | assumption)
                                          obtain ⟨ad120, A120_0, c120_0, e120, hx120_0, hl120_0, hi120_0⟩ := at_L1 (Kd.S_reads' HO_6.out).2.2 x8_2 p120 q120
                                          obtain rfl : ad115 = ad120 := (by injection e120)
                                          obtain ⟨ce120, hce120, hMe120, hcc120⟩ := Kd.S_get HO_6.out [] x8_2 p120 (by first | exact q120 | exact of_decide_eq_true (by first | (with_reducible assumption) | assumption) | (have e_ := (Kd.S_reads' HO_6.out).1; omega))
                                          obtain ⟨ve120_0, rfl, ge120_0⟩ := hMe120
                                          have hv120_0 := hcc120 0 _ rfl
                                          rw [Nat.add_zero, show ((Kd.slice 3 (Kd.int .i64))).sz = 1 from rfl, Nat.mul_one] at hv120_0
                                          replace hv120_0 := Option.some.inj (hv120_0.symm.trans hx120_0)
                                          rw [hv120_0] at ge120_0
                                          have HL120_0 := Aside0.mk (show Kd.R (Kd.int .i64) 3 _ _ _ _ (rd_L1 t111 x8_2) from ge120_0)
                                          clear hv120_0 ge120_0
                                          clear hcc120 hce120
                                          have HR120_0 := Aside0.mk hi120_0
                                          have HC120_0 := Aside0.mk hl120_0
                                          clear hi120_0 hl120_0
                                          replace p120 := eq_true p120
                                          replace q120 := eq_true q120
                                          have ea_ := Option.some.inj (hx115_0.symm.trans hx120_0)
                                          injection ea_ with ea_ en_ ec_
                                          subst ea_
                                          subst ec_
                                          clear en_
                                          have p121 : 0 ≤ (x10_3 : Int) := of_decide_eq_true (by first | (with_reducible assumption) | assumption)
                                          have q121 : x10_3 < ((rd_L1 t111 x8_2).length : Int) := of_decide_eq_true (by first | (with_reducible assumption) | assumption)
                                          obtain ⟨ad121, e121, hx121_0⟩ := Kd.at_int (by repeat (first | (with_reducible exact HR120_0.out) | (with_reducible refine Kd.C_alloc ?_ _) | (with_reducible refine Kd.C_drewN ?_ _) | (with_reducible refine Kd.C_drew ?_) | exact HR120_0.out)) x10_3 p121 q121
                                          cases e121
                                          replace p121 := eq_true p121
                                          replace q121 := eq_true q121
                                          obtain ⟨Ao44, co44, eo44⟩ := Kd.R_slice HO_5.out
                                          subst eo44
                                          have p122 : 0 ≤ ((rd (rd_L1 t111 x8_2) x10_3) : Int) := of_decide_eq_true (by first | (with_reducible assumption) | assumption)
                                          have q122 : (rd (rd_L1 t111 x8_2) x10_3) < (t108.length : Int) := of_decide_eq_true (by first | (with_reducible assumption) | assumption)
                                          obtain ⟨ad122, e122, hx122_0⟩ := Kd.at_bool (Kd.R_reads' HO_5.out).2.2 (rd (rd_L1 t111 x8_2) x10_3) p122 q122
                                          cases e122
                                          replace p122 := eq_true p122
                                          replace q122 := eq_true q122
                                          have p123 : 0 ≤ (x8_2 : Int) := of_decide_eq_true (by first | (with_reducible assumption) | assumption)
                                          have q123 : x8_2 < (t111.length : Int) := of_decide_eq_true (by first | (with_reducible assumption) | assumption)
                                          obtain ⟨ad123, A123_0, c123_0, e123, hx123_0, hl123_0, hi123_0⟩ := at_L1 (Kd.S_reads' HO_6.out).2.2 x8_2 p123 q123
                                          obtain rfl : ad115 = ad123 := (by injection e123)
                                          obtain ⟨ce123, hce123, hMe123, hcc123⟩ := Kd.S_get HO_6.out [] x8_2 p123 (by first | exact q123 | exact of_decide_eq_true (by first | (with_reducible assumption) | assumption) | (have e_ := (Kd.S_reads' HO_6.out).1; omega))
                                          obtain ⟨ve123_0, rfl, ge123_0⟩ := hMe123
                                          have hv123_0 := hcc123 0 _ rfl
                                          rw [Nat.add_zero, show ((Kd.slice 3 (Kd.int .i64))).sz = 1 from rfl, Nat.mul_one] at hv123_0
                                          replace hv123_0 := Option.some.inj (hv123_0.symm.trans hx123_0)
                                          rw [hv123_0] at ge123_0
                                          have HL123_0 := Aside0.mk (show Kd.R (Kd.int .i64) 3 _ _ _ _ (rd_L1 t111 x8_2) from ge123_0)
                                          clear hv123_0 ge123_0
                                          clear hcc123 hce123
                                          have HR123_0 := Aside0.mk hi123_0
                                          have HC123_0 := Aside0.mk hl123_0
                                          clear hi123_0 hl123_0
                                          replace p123 := eq_true p123
                                          replace q123 := eq_true q123
                                          have ea_ := Option.some.inj (hx115_0.symm.trans hx123_0)
                                          injection ea_ with ea_ en_ ec_
                                          subst ea_
                                          subst ec_
                                          clear en_
                                          have p124 : 0 ≤ (x10_3 : Int) := of_decide_eq_true (by first | (with_reducible assumption) | assumption)
                                          have q124 : x10_3 < ((rd_L1 t111 x8_2).length : Int) := of_decide_eq_true (by first | (with_reducible assumption) | assumption)
                                          obtain ⟨ad124, e124, hx124_0⟩ := Kd.at_int (by repeat (first | (with_reducible exact HR123_0.out) | (with_reducible refine Kd.C_alloc ?_ _) | (with_reducible refine Kd.C_drewN ?_ _) | (with_reducible refine Kd.C_drew ?_) | exact HR123_0.out)) x10_3 p124 q124
                                          cases e124
                                          replace p124 := eq_true p124
                                          replace q124 := eq_true q124
                                          have p125 : 0 ≤ (x8_2 : Int) := of_decide_eq_true (by first | (with_reducible assumption) | assumption)
                                          have q125 : x8_2 < (t111.length : Int) := of_decide_eq_true (by first | (with_reducible assumption) | assumption)
                                          obtain ⟨ad125, A125_0, c125_0, e125, hx125_0, hl125_0, hi125_0⟩ := at_L1 (Kd.S_reads' HO_6.out).2.2 x8_2 p125 q125
                                          obtain rfl : ad115 = ad125 := (by injection e125)
                                          obtain ⟨ce125, hce125, hMe125, hcc125⟩ := Kd.S_get HO_6.out [] x8_2 p125 (by first | exact q125 | exact of_decide_eq_true (by first | (with_reducible assumption) | assumption) | (have e_ := (Kd.S_reads' HO_6.out).1; omega))
                                          obtain ⟨ve125_0, rfl, ge125_0⟩ := hMe125
                                          have hv125_0 := hcc125 0 _ rfl
                                          rw [Nat.add_zero, show ((Kd.slice 3 (Kd.int .i64))).sz = 1 from rfl, Nat.mul_one] at hv125_0
                                          replace hv125_0 := Option.some.inj (hv125_0.symm.trans hx125_0)
                                          rw [hv125_0] at ge125_0
                                          have HL125_0 := Aside0.mk (show Kd.R (Kd.int .i64) 3 _ _ _ _ (rd_L1 t111 x8_2) from ge125_0)
                                          clear hv125_0 ge125_0
                                          clear hcc125 hce125
                                          have HR125_0 := Aside0.mk hi125_0
                                          have HC125_0 := Aside0.mk hl125_0
                                          clear hi125_0 hl125_0
                                          replace p125 := eq_true p125
                                          replace q125 := eq_true q125
                                          have ea_ := Option.some.inj (hx115_0.symm.trans hx125_0)
                                          injection ea_ with ea_ en_ ec_
                                          subst ea_
                                          subst ec_
                                          clear en_
                                          have p126 : 0 ≤ ((ji37) : Int) := of_decide_eq_true (by first | (with_reducible assumption) | assumption)
                                          have q126 : (ji37) < ((rd_L1 t111 x8_2).length : Int) := of_decide_eq_true (by first | (with_reducible assumption) | assumption)
                                          obtain ⟨ad126, e126, hx126_0⟩ := Kd.at_int (by repeat (first | (with_reducible exact HR125_0.out) | (with_reducible refine Kd.C_alloc ?_ _) | (with_reducible refine Kd.C_drewN ?_ _) | (with_reducible refine Kd.C_drew ?_) | exact HR125_0.out)) (ji37) p126 q126
                                          cases e126
                                          replace p126 := eq_true p126
                                          replace q126 := eq_true q126
                                          go_wp2
                                          repeat (go_quiet (fail); try go_wp2)
                                          go_roundg k3
                                          case measure => have := HJ6.out; have := HK2.out; have := HK3.out; omega
                                          case rel => exact ⟨(wrap64 (x7_3 + 1)), (rdOf false t108 (rd (rd_L1 t111 x8_2) x10_3)), (wrap64 (x10_3 + 1)), (by first | rfl | (simp; done) | (simp [*]; done)), (by first | rfl | (simp; done) | (simp [*]; done)), (by first | rfl | (simp; done) | (simp [*]; done)), H', ⟨by have := HJ6.out; have := HK2.out; have := HK3.out; omega⟩, ⟨by (with_reducible repeat (first | apply Kd.R_alloc | apply Kd.R_drewN | apply Kd.R_drew)); exact HO_5.out⟩, ⟨by (with_reducible repeat (first | apply Kd.S_alloc | apply Kd.S_drewN | apply Kd.S_drew)); exact HO_6.out⟩, ⟨by repeat (first | (with_reducible first | exact HB.out | apply below_alloc | apply pw_below_drewN | apply below_drew1) | exact HB.out)⟩⟩
                                      · rw [if_neg c39] at H
                                        exact absurd H (by simp)
                                    · rw [if_neg c38] at H
                                      exact absurd H (by simp)
                                  · rw [if_neg c36] at H
                                    have c36b0 : decide (0 < x10_3) = false := decide_eq_false c36
                                    clear c36
                                    have H' := Aside0.mk H
                                    clear H
                                    obtain ⟨Ao45, co45, eo45⟩ := Kd.S_slice HO_6.out
                                    subst eo45
                                    have p115 : 0 ≤ (x8_2 : Int) := of_decide_eq_true (by first | (with_reducible assumption) | assumption)
                                    have q115 : x8_2 < (t111.length : Int) := of_decide_eq_true (by first | (with_reducible assumption) | assumption)
                                    obtain ⟨ad115, A115_0, c115_0, e115, hx115_0, hl115_0, hi115_0⟩ := at_L1 (Kd.S_reads' HO_6.out).2.2 x8_2 p115 q115
                                    cases e115
                                    obtain ⟨ce115, hce115, hMe115, hcc115⟩ := Kd.S_get HO_6.out [] x8_2 p115 (by first | exact q115 | exact of_decide_eq_true (by first | (with_reducible assumption) | assumption) | (have e_ := (Kd.S_reads' HO_6.out).1; omega))
                                    obtain ⟨ve115_0, rfl, ge115_0⟩ := hMe115
                                    have hv115_0 := hcc115 0 _ rfl
                                    rw [Nat.add_zero, show ((Kd.slice 3 (Kd.int .i64))).sz = 1 from rfl, Nat.mul_one] at hv115_0
                                    replace hv115_0 := Option.some.inj (hv115_0.symm.trans hx115_0)
                                    rw [hv115_0] at ge115_0
                                    have HL115_0 := Aside0.mk (show Kd.R (Kd.int .i64) 3 _ _ _ _ (rd_L1 t111 x8_2) from ge115_0)
                                    clear hv115_0 ge115_0
                                    clear hcc115 hce115
                                    have HR115_0 := Aside0.mk hi115_0
                                    have HC115_0 := Aside0.mk hl115_0
                                    clear hi115_0 hl115_0
                                    replace p115 := eq_true p115
                                    replace q115 := eq_true q115
                                    have p120 : 0 ≤ (x8_2 : Int) := of_decide_eq_true (by first | (with_reducible assumption) | assumption)
                                    have q120 : x8_2 < (t111.length : Int) := of_decide_eq_true (by first | (with_reducible assumption) | assumption)
                                    obtain ⟨ad120, A120_0, c120_0, e120, hx120_0, hl120_0, hi120_0⟩ := at_L1 (Kd.S_reads' HO_6.out).2.2 x8_2 p120 q120
                                    obtain rfl : ad115 = ad120 := (by injection e120)
                                    obtain ⟨ce120, hce120, hMe120, hcc120⟩ := Kd.S_get HO_6.out [] x8_2 p120 (by first | exact q120 | exact of_decide_eq_true (by first | (with_reducible assumption) | assumption) | (have e_ := (Kd.S_reads' HO_6.out).1; omega))
                                    obtain ⟨ve120_0, rfl, ge120_0⟩ := hMe120
                                    have hv120_0 := hcc120 0 _ rfl
                                    rw [Nat.add_zero, show ((Kd.slice 3 (Kd.int .i64))).sz = 1 from rfl, Nat.mul_one] at hv120_0
                                    replace hv120_0 := Option.some.inj (hv120_0.symm.trans hx120_0)
                                    rw [hv120_0] at ge120_0
                                    have HL120_0 := Aside0.mk (show Kd.R (Kd.int .i64) 3 _ _ _ _ (rd_L1 t111 x8_2) from ge120_0)
                                    clear hv120_0 ge120_0
                                    clear hcc120 hce120
                                    have HR120_0 := Aside0.mk hi120_0
                                    have HC120_0 := Aside0.mk hl120_0
                                    clear hi120_0 hl120_0
                                    replace p120 := eq_true p120
                                    replace q120 := eq_true q120
                                    have ea_ := Option.some.inj (hx115_0.symm.trans hx120_0)
                                    injection ea_ with ea_ en_ ec_
                                    subst ea_
                                    subst ec_
                                    clear en_
                                    have p121 : 0 ≤ (x10_3 : Int) := of_decide_eq_true (by first | (with_reducible assumption) | assumption)
                                    have q121 : x10_3 < ((rd_L1 t111 x8_2).length : Int) := of_decide_eq_true (by first | (with_reducible assumption) | assumption)
                                    obtain ⟨ad121, e121, hx121_0⟩ := Kd.at_int (by repeat (first | (with_reducible exact HR120_0.out) | (with_reducible refine Kd.C_alloc ?_ _) | (with_reducible refine Kd.C_drewN ?_ _) | (with_reducible refine Kd.C_drew ?_) | exact HR120_0.out)) x10_3 p121 q121
                                    cases e121
                                    replace p121 := eq_true p121
                                    replace q121 := eq_true q121
                                    obtain ⟨Ao46, co46, eo46⟩ := Kd.R_slice HO_5.out
                                    subst eo46
                                    have p122 : 0 ≤ ((rd (rd_L1 t111 x8_2) x10_3) : Int) := of_decide_eq_true (by first | (with_reducible assumption) | assumption)
                                    have q122 : (rd (rd_L1 t111 x8_2) x10_3) < (t108.length : Int) := of_decide_eq_true (by first | (with_reducible assumption) | assumption)
                                    obtain ⟨ad122, e122, hx122_0⟩ := Kd.at_bool (Kd.R_reads' HO_5.out).2.2 (rd (rd_L1 t111 x8_2) x10_3) p122 q122
                                    cases e122
                                    replace p122 := eq_true p122
                                    replace q122 := eq_true q122
                                    go_wp2
                                    repeat (go_quiet (fail); try go_wp2)
                                    go_roundg k3
                                    case measure => have := HJ6.out; have := HK2.out; have := HK3.out; omega
                                    case rel => exact ⟨(wrap64 (x7_3 + 1)), (rdOf false t108 (rd (rd_L1 t111 x8_2) x10_3)), (wrap64 (x10_3 + 1)), (by first | rfl | (simp; done) | (simp [*]; done)), (by first | rfl | (simp; done) | (simp [*]; done)), (by first | rfl | (simp; done) | (simp [*]; done)), H', ⟨by have := HJ6.out; have := HK2.out; have := HK3.out; omega⟩, ⟨by (with_reducible repeat (first | apply Kd.R_alloc | apply Kd.R_drewN | apply Kd.R_drew)); exact HO_5.out⟩, ⟨by (with_reducible repeat (first | apply Kd.S_alloc | apply Kd.S_drewN | apply Kd.S_drew)); exact HO_6.out⟩, ⟨by repeat (first | (with_reducible first | exact HB.out | apply below_alloc | apply pw_below_drewN | apply below_drew1) | exact HB.out)⟩⟩
                                · rw [if_neg c35] at H
                                  exact absurd H (by simp)
                              · rw [if_neg c34] at H
                                exact absurd H (by simp)
                            · rw [if_neg c33] at H
                              exact absurd H (by simp)
                        · rw [if_neg c22] at H
                          have c22b0 : decide (x10_3 < ((rd_L1 t111 x8_2).length : Int)) = false := decide_eq_false c22
                          clear c22
                          by_cases c47 : x8_2 < (t108.length : Int)
                          · rw [if_pos c47] at H
                            have c47b0 : decide (x8_2 < (t108.length : Int)) = true := decide_eq_true c47
                            clear c47
                            obtain ⟨bq48, hbq48⟩ : ∃ b_ : Bool, b_ = (rdOf false t108 x8_2) := ⟨_, rfl⟩
                            replace H : (if bq48 = true then (if x9_3 = true then (ferrulelaw11_GraphCloses.l0 k3 (wrap64 (1 + (Go.bits .and .i64 a0 31))) l1 t108 t111 x7_3 (wrap64 (x8_2 + 1))) else (some false)) else (ferrulelaw11_GraphCloses.l0 k3 (wrap64 (1 + (Go.bits .and .i64 a0 31))) l1 t108 t111 x7_3 (wrap64 (x8_2 + 1)))) = some r := by rw [← hbq48] at H; exact H
                            have Nbq48 := Aside0.mk hbq48
                            clear hbq48
                            by_cases c49 : bq48 = true
                            · subst c49
                              have H1 : (if x9_3 = true then (ferrulelaw11_GraphCloses.l0 k3 (wrap64 (1 + (Go.bits .and .i64 a0 31))) l1 t108 t111 x7_3 (wrap64 (x8_2 + 1))) else (some false)) = some r := by rw [if_pos rfl] at H; exact H
                              clear H
                              have H := H1
                              clear H1
                              by_cases c50 : x9_3 = true
                              · subst c50
                                have H1 : (ferrulelaw11_GraphCloses.l0 k3 (wrap64 (1 + (Go.bits .and .i64 a0 31))) l1 t108 t111 x7_3 (wrap64 (x8_2 + 1))) = some r := by rw [if_pos rfl] at H; exact H
                                clear H
                                have H := H1
                                clear H1
                                have H' := Aside0.mk H
                                clear H
                                obtain ⟨Ao51, co51, eo51⟩ := Kd.S_slice HO_6.out
                                subst eo51
                                have p115 : 0 ≤ (x8_2 : Int) := of_decide_eq_true (by first | (with_reducible assumption) | assumption)
                                have q115 : x8_2 < (t111.length : Int) := of_decide_eq_true (by first | (with_reducible assumption) | assumption)
                                obtain ⟨ad115, A115_0, c115_0, e115, hx115_0, hl115_0, hi115_0⟩ := at_L1 (Kd.S_reads' HO_6.out).2.2 x8_2 p115 q115
                                cases e115
                                obtain ⟨ce115, hce115, hMe115, hcc115⟩ := Kd.S_get HO_6.out [] x8_2 p115 (by first | exact q115 | exact of_decide_eq_true (by first | (with_reducible assumption) | assumption) | (have e_ := (Kd.S_reads' HO_6.out).1; omega))
                                obtain ⟨ve115_0, rfl, ge115_0⟩ := hMe115
                                have hv115_0 := hcc115 0 _ rfl
                                rw [Nat.add_zero, show ((Kd.slice 3 (Kd.int .i64))).sz = 1 from rfl, Nat.mul_one] at hv115_0
                                replace hv115_0 := Option.some.inj (hv115_0.symm.trans hx115_0)
                                rw [hv115_0] at ge115_0
                                have HL115_0 := Aside0.mk (show Kd.R (Kd.int .i64) 3 _ _ _ _ (rd_L1 t111 x8_2) from ge115_0)
                                clear hv115_0 ge115_0
                                clear hcc115 hce115
                                have HR115_0 := Aside0.mk hi115_0
                                have HC115_0 := Aside0.mk hl115_0
                                clear hi115_0 hl115_0
                                replace p115 := eq_true p115
                                replace q115 := eq_true q115
                                obtain ⟨Ao52, co52, eo52⟩ := Kd.R_slice HO_5.out
                                subst eo52
                                have p127 : 0 ≤ (x8_2 : Int) := of_decide_eq_true (by first | (with_reducible assumption) | assumption)
                                have q127 : x8_2 < (t108.length : Int) := of_decide_eq_true (by first | (with_reducible assumption) | assumption)
                                obtain ⟨ad127, e127, hx127_0⟩ := Kd.at_bool (Kd.R_reads' HO_5.out).2.2 x8_2 p127 q127
                                (try rw [← Nbq48.out] at hx127_0)
                                cases e127
                                replace p127 := eq_true p127
                                replace q127 := eq_true q127
                                go_wp2
                                repeat (go_quiet (fail); try go_wp2)
                                go_roundg k3
                                case measure => have := HJ6.out; have := HK2.out; have := HK3.out; omega
                                case rel => exact ⟨(x7_3), (wrap64 (x8_2 + 1)), (by first | rfl | (simp; done) | (simp [*]; done)), (by first | rfl | (simp; done) | (simp [*]; done)), H', ⟨by have := HJ6.out; have := HK2.out; have := HK3.out; omega⟩, ⟨by (with_reducible repeat (first | apply Kd.R_alloc | apply Kd.R_drewN | apply Kd.R_drew)); exact HO_5.out⟩, ⟨by (with_reducible repeat (first | apply Kd.S_alloc | apply Kd.S_drewN | apply Kd.S_drew)); exact HO_6.out⟩, ⟨by repeat (first | (with_reducible first | exact HB.out | apply below_alloc | apply pw_below_drewN | apply below_drew1) | exact HB.out)⟩⟩
                              · replace c50 := Bool.eq_false_iff.mpr c50
                                subst c50
                                have H1 : (some false) = some r := by rw [if_neg (show ¬ (false = true) by decide)] at H; exact H
                                clear H
                                have H := H1
                                clear H1
                                obtain rfl := Option.some.inj H
                                obtain ⟨Ao53, co53, eo53⟩ := Kd.S_slice HO_6.out
                                subst eo53
                                have p115 : 0 ≤ (x8_2 : Int) := of_decide_eq_true (by first | (with_reducible assumption) | assumption)
                                have q115 : x8_2 < (t111.length : Int) := of_decide_eq_true (by first | (with_reducible assumption) | assumption)
                                obtain ⟨ad115, A115_0, c115_0, e115, hx115_0, hl115_0, hi115_0⟩ := at_L1 (Kd.S_reads' HO_6.out).2.2 x8_2 p115 q115
                                cases e115
                                obtain ⟨ce115, hce115, hMe115, hcc115⟩ := Kd.S_get HO_6.out [] x8_2 p115 (by first | exact q115 | exact of_decide_eq_true (by first | (with_reducible assumption) | assumption) | (have e_ := (Kd.S_reads' HO_6.out).1; omega))
                                obtain ⟨ve115_0, rfl, ge115_0⟩ := hMe115
                                have hv115_0 := hcc115 0 _ rfl
                                rw [Nat.add_zero, show ((Kd.slice 3 (Kd.int .i64))).sz = 1 from rfl, Nat.mul_one] at hv115_0
                                replace hv115_0 := Option.some.inj (hv115_0.symm.trans hx115_0)
                                rw [hv115_0] at ge115_0
                                have HL115_0 := Aside0.mk (show Kd.R (Kd.int .i64) 3 _ _ _ _ (rd_L1 t111 x8_2) from ge115_0)
                                clear hv115_0 ge115_0
                                clear hcc115 hce115
                                have HR115_0 := Aside0.mk hi115_0
                                have HC115_0 := Aside0.mk hl115_0
                                clear hi115_0 hl115_0
                                replace p115 := eq_true p115
                                replace q115 := eq_true q115
                                obtain ⟨Ao54, co54, eo54⟩ := Kd.R_slice HO_5.out
                                subst eo54
                                have p127 : 0 ≤ (x8_2 : Int) := of_decide_eq_true (by first | (with_reducible assumption) | assumption)
                                have q127 : x8_2 < (t108.length : Int) := of_decide_eq_true (by first | (with_reducible assumption) | assumption)
                                obtain ⟨ad127, e127, hx127_0⟩ := Kd.at_bool (Kd.R_reads' HO_5.out).2.2 x8_2 p127 q127
                                (try rw [← Nbq48.out] at hx127_0)
                                cases e127
                                replace p127 := eq_true p127
                                replace q127 := eq_true q127
                                go_wp2
                                repeat (go_quiet (fail); try go_wp2)
                                go_ret
                                exact ⟨by first | rfl | (simp [errW_none, errW_some] <;> rfl) | (simp [*, errW_none, errW_some] <;> rfl), by repeat (first | (with_reducible first | exact HB.out | apply below_alloc | apply pw_below_drewN | apply below_drew1) | exact HB.out)⟩
                            · replace c49 := Bool.eq_false_iff.mpr c49
                              subst c49
                              have H1 : (ferrulelaw11_GraphCloses.l0 k3 (wrap64 (1 + (Go.bits .and .i64 a0 31))) l1 t108 t111 x7_3 (wrap64 (x8_2 + 1))) = some r := by rw [if_neg (show ¬ (false = true) by decide)] at H; exact H
                              clear H
                              have H := H1
                              clear H1
                              have H' := Aside0.mk H
                              clear H
                              obtain ⟨Ao55, co55, eo55⟩ := Kd.S_slice HO_6.out
                              subst eo55
                              have p115 : 0 ≤ (x8_2 : Int) := of_decide_eq_true (by first | (with_reducible assumption) | assumption)
                              have q115 : x8_2 < (t111.length : Int) := of_decide_eq_true (by first | (with_reducible assumption) | assumption)
                              obtain ⟨ad115, A115_0, c115_0, e115, hx115_0, hl115_0, hi115_0⟩ := at_L1 (Kd.S_reads' HO_6.out).2.2 x8_2 p115 q115
                              cases e115
                              obtain ⟨ce115, hce115, hMe115, hcc115⟩ := Kd.S_get HO_6.out [] x8_2 p115 (by first | exact q115 | exact of_decide_eq_true (by first | (with_reducible assumption) | assumption) | (have e_ := (Kd.S_reads' HO_6.out).1; omega))
                              obtain ⟨ve115_0, rfl, ge115_0⟩ := hMe115
                              have hv115_0 := hcc115 0 _ rfl
                              rw [Nat.add_zero, show ((Kd.slice 3 (Kd.int .i64))).sz = 1 from rfl, Nat.mul_one] at hv115_0
                              replace hv115_0 := Option.some.inj (hv115_0.symm.trans hx115_0)
                              rw [hv115_0] at ge115_0
                              have HL115_0 := Aside0.mk (show Kd.R (Kd.int .i64) 3 _ _ _ _ (rd_L1 t111 x8_2) from ge115_0)
                              clear hv115_0 ge115_0
                              clear hcc115 hce115
                              have HR115_0 := Aside0.mk hi115_0
                              have HC115_0 := Aside0.mk hl115_0
                              clear hi115_0 hl115_0
                              replace p115 := eq_true p115
                              replace q115 := eq_true q115
                              obtain ⟨Ao56, co56, eo56⟩ := Kd.R_slice HO_5.out
                              subst eo56
                              have p127 : 0 ≤ (x8_2 : Int) := of_decide_eq_true (by first | (with_reducible assumption) | assumption)
                              have q127 : x8_2 < (t108.length : Int) := of_decide_eq_true (by first | (with_reducible assumption) | assumption)
                              obtain ⟨ad127, e127, hx127_0⟩ := Kd.at_bool (Kd.R_reads' HO_5.out).2.2 x8_2 p127 q127
                              (try rw [← Nbq48.out] at hx127_0)
                              cases e127
                              replace p127 := eq_true p127
                              replace q127 := eq_true q127
                              go_wp2
                              repeat (go_quiet (fail); try go_wp2)
                              go_roundg k3
                              case measure => have := HJ6.out; have := HK2.out; have := HK3.out; omega
                              case rel => exact ⟨(x7_3), (wrap64 (x8_2 + 1)), (by first | rfl | (simp; done) | (simp [*]; done)), (by first | rfl | (simp; done) | (simp [*]; done)), H', ⟨by have := HJ6.out; have := HK2.out; have := HK3.out; omega⟩, ⟨by (with_reducible repeat (first | apply Kd.R_alloc | apply Kd.R_drewN | apply Kd.R_drew)); exact HO_5.out⟩, ⟨by (with_reducible repeat (first | apply Kd.S_alloc | apply Kd.S_drewN | apply Kd.S_drew)); exact HO_6.out⟩, ⟨by repeat (first | (with_reducible first | exact HB.out | apply below_alloc | apply pw_below_drewN | apply below_drew1) | exact HB.out)⟩⟩
                          · rw [if_neg c47] at H
                            exact absurd H (by simp)
                      · rw [if_neg c21] at H
                        exact absurd H (by simp)
                    · rw [if_neg c20] at H
                      exact absurd H (by simp)
              · rw [if_neg c19] at H
                have c19b0 : decide (x8_2 < (wrap64 (1 + (Go.bits .and .i64 a0 31)))) = false := decide_eq_false c19
                clear c19
                have H' := Aside0.mk H
                clear H
                go_wp2
                repeat (go_quiet (fail); try go_wp2)
                go_loopg [11, 12] k2 (fun kq v11 v12 w' => ∃ (x11_3 : Int) (x12_3 : Int), v11 = .int .i64 x11_3 ∧ v12 = .int .i64 x12_3 ∧ Aside0 (ferrulelaw11_GraphCloses.l2 kq (wrap64 (1 + (Go.bits .and .i64 a0 31))) l1 t108 x7_2 x11_3 x12_3 = some r) ∧ Aside0 (kq ≤ k2) ∧ Aside0 (Kd.R Kd.bool 4 w' w.heap.size (fun _ => True) v109 t108) ∧ Aside0 (Below w.heap.size w w'))
                case atStart => exact ⟨(0), (0), (by first | rfl | (simp; done) | (simp [*]; done)), (by first | rfl | (simp; done) | (simp [*]; done)), H', ⟨Nat.le_refl _⟩, ⟨by (with_reducible repeat (first | apply Kd.R_alloc | apply Kd.R_drewN | apply Kd.R_drew)); exact HO_5.out⟩, ⟨by repeat (first | (with_reducible first | exact HB.out | apply below_alloc | apply pw_below_drewN | apply below_drew1) | exact HB.out)⟩⟩
                case round =>
                  clear H'
                  try clear c1
                  try clear p1
                  try clear q1
                  try clear hx1
                  try clear c2
                  try clear p2
                  try clear c3
                  try clear c4
                  try clear q4
                  try clear c5
                  try clear p6
                  try clear c11
                  try clear p11
                  try clear q11
                  try clear hx11
                  try clear c12
                  try clear p12
                  try clear q12
                  try clear hx12
                  try clear c19
                  try clear c19b0
                  try clear c20
                  try clear c21
                  try clear c22
                  try clear c22b0
                  try clear c23
                  try clear c24
                  try clear c24b0
                  try clear c25
                  try clear c27
                  try clear c28
                  try clear c33
                  try clear c33b0
                  try clear c34
                  try clear c34b0
                  try clear c35
                  try clear c35b0
                  try clear c36
                  try clear c36b0
                  try clear c38
                  try clear c38b0
                  try clear c39
                  try clear c39b0
                  try clear c40
                  try clear c40b0
                  try clear c47
                  try clear c47b0
                  try clear q48
                  try clear c49
                  try clear c50
                  try clear hx115_0
                  try clear hx116_0
                  try clear hx117_0
                  try clear hx118_0
                  try clear hx119_0
                  try clear hx120_0
                  try clear hx121_0
                  try clear hx122_0
                  try clear hx123_0
                  try clear hx124_0
                  try clear hx125_0
                  try clear hx126_0
                  try clear hx127_0
                  try clear p115
                  try clear p116
                  try clear p117
                  try clear p118
                  try clear p119
                  try clear p120
                  try clear p121
                  try clear p122
                  try clear p123
                  try clear p124
                  try clear p125
                  try clear p126
                  try clear p127
                  try clear q115
                  try clear q116
                  try clear q117
                  try clear q118
                  try clear q119
                  try clear q120
                  try clear q121
                  try clear q122
                  try clear q123
                  try clear q124
                  try clear q125
                  try clear q126
                  try clear q127
                  obtain ⟨x11_3, x12_3, rfl, rfl, HA, HK3, HO_5, HB⟩ := hrel
                  cases gk with
                  | zero => exact absurd HA.out (by simp [ferrulelaw11_GraphCloses.l2])
                  | succ k3 =>
                    have H := HA.out
                    clear HA
                    simp only [ferrulelaw11_GraphCloses.l2] at H
                    have HC57 := Aside0.mk H
                    clear H
                    go_upto_region 24 with (fail)
                    repeat (go_quiet (fail); go_upto_region 24 with (fail))
                    go_cut [111] (fun v111 wc => ∃ (kq : Nat) (x111_56 : Bool), v111 = .bool x111_56 ∧ Aside0 (ferrulelaw11_GraphCloses.j4 kq (wrap64 (1 + (Go.bits .and .i64 a0 31))) l1 t108 x7_2 x11_3 x12_3 x111_56 = some r) ∧ Aside0 (kq ≤ k3) ∧ Aside0 (Kd.R Kd.bool 4 wc w.heap.size (fun _ => True) v109 t108) ∧ Aside0 (Below w.heap.size w wc))
                    case first =>
                      have H := HC57.out
                      clear HC57
                      by_cases c58 : x12_3 < (l1.length : Int)
                      · rw [if_pos c58] at H
                        have c58b0 : decide (x12_3 < (l1.length : Int)) = true := decide_eq_true c58
                        clear c58
                        (first | rw [c58b0] | (simp only [i64_w, i32_w]; rw [c58b0]) | skip)
                        have H' := Aside0.mk H
                        clear H
                        go_wp2
                        repeat (go_quiet (fail); try go_wp2)
                        go_meet
                        case rel => exact ⟨_, (decide (x12_3 < (wrap64 (1 + (Go.bits .and .i64 a0 31))))), (by first | rfl | (simp; done) | (simp [*]; done)), H', ⟨by have := HJ6.out; have := HK2.out; have := HK3.out; first | omega | exact Nat.le_refl _⟩, ⟨by (with_reducible repeat (first | apply Kd.R_alloc | apply Kd.R_drewN | apply Kd.R_drew)); exact HO_5.out⟩, ⟨by repeat (first | (with_reducible first | exact HB.out | apply below_alloc | apply pw_below_drewN | apply below_drew1) | exact HB.out)⟩⟩
                      · rw [if_neg c58] at H
                        have c58b0 : decide (x12_3 < (l1.length : Int)) = false := decide_eq_false c58
                        clear c58
                        (first | rw [c58b0] | (simp only [i64_w, i32_w]; rw [c58b0]) | skip)
                        have H' := Aside0.mk H
                        clear H
                        go_wp2
                        repeat (go_quiet (fail); try go_wp2)
                        go_meet
                        case rel => exact ⟨_, (false), (by first | rfl | (simp; done) | (simp [*]; done)), H', ⟨by have := HJ6.out; have := HK2.out; have := HK3.out; first | omega | exact Nat.le_refl _⟩, ⟨by (with_reducible repeat (first | apply Kd.R_alloc | apply Kd.R_drewN | apply Kd.R_drew)); exact HO_5.out⟩, ⟨by repeat (first | (with_reducible first | exact HB.out | apply below_alloc | apply pw_below_drewN | apply below_drew1) | exact HB.out)⟩⟩
                    case rest =>
                      clear HC57
                      try clear c1
                      try clear p1
                      try clear q1
                      try clear hx1
                      try clear c2
                      try clear p2
                      try clear c3
                      try clear c4
                      try clear q4
                      try clear c5
                      try clear p6
                      try clear c11
                      try clear p11
                      try clear q11
                      try clear hx11
                      try clear c12
                      try clear p12
                      try clear q12
                      try clear hx12
                      try clear c19
                      try clear c19b0
                      try clear c20
                      try clear c21
                      try clear c22
                      try clear c22b0
                      try clear c23
                      try clear c24
                      try clear c24b0
                      try clear c25
                      try clear c27
                      try clear c28
                      try clear c33
                      try clear c33b0
                      try clear c34
                      try clear c34b0
                      try clear c35
                      try clear c35b0
                      try clear c36
                      try clear c36b0
                      try clear c38
                      try clear c38b0
                      try clear c39
                      try clear c39b0
                      try clear c40
                      try clear c40b0
                      try clear c47
                      try clear c47b0
                      try clear q48
                      try clear c49
                      try clear c50
                      try clear c58
                      try clear c58b0
                      try clear hx115_0
                      try clear hx116_0
                      try clear hx117_0
                      try clear hx118_0
                      try clear hx119_0
                      try clear hx120_0
                      try clear hx121_0
                      try clear hx122_0
                      try clear hx123_0
                      try clear hx124_0
                      try clear hx125_0
                      try clear hx126_0
                      try clear hx127_0
                      try clear p1
                      try clear p11
                      try clear p115
                      try clear p116
                      try clear p117
                      try clear p118
                      try clear p119
                      try clear p12
                      try clear p120
                      try clear p121
                      try clear p122
                      try clear p123
                      try clear p124
                      try clear p125
                      try clear p126
                      try clear p127
                      try clear p2
                      try clear p6
                      try clear q1
                      try clear q11
                      try clear q115
                      try clear q116
                      try clear q117
                      try clear q118
                      try clear q119
                      try clear q12
                      try clear q120
                      try clear q121
                      try clear q122
                      try clear q123
                      try clear q124
                      try clear q125
                      try clear q126
                      try clear q127
                      try clear q4
                      try clear q48
                      obtain ⟨kq, x111_56, rfl, HA, HJ56, HO_5, HB⟩ := hcut
                      cases kq with
                      | zero => exact absurd HA.out (by simp [ferrulelaw11_GraphCloses.j4])
                      | succ kj56 =>
                        have H := HA.out
                        clear HA
                        simp only [ferrulelaw11_GraphCloses.j4] at H
                        by_cases c59 : x111_56 = true
                        · subst c59
                          have H1 : (ferrulelaw11_GraphCloses.l3 kj56 (wrap64 (1 + (Go.bits .and .i64 a0 31))) l1 t108 x7_2 x11_3 x12_3 0) = some r := by rw [if_pos rfl] at H; exact H
                          clear H
                          have H := H1
                          clear H1
                          have H' := Aside0.mk H
                          clear H
                          go_wp2
                          repeat (go_quiet (fail); try go_wp2)
                          go_loopg [11, 13] kj56 (fun kq v11 v13 w' => ∃ (x11_5 : Int) (x13_5 : Int), v11 = .int .i64 x11_5 ∧ v13 = .int .i64 x13_5 ∧ Aside0 (ferrulelaw11_GraphCloses.l3 kq (wrap64 (1 + (Go.bits .and .i64 a0 31))) l1 t108 x7_2 x11_5 x12_3 x13_5 = some r) ∧ Aside0 (kq ≤ kj56) ∧ Aside0 (Kd.R Kd.bool 4 w' w.heap.size (fun _ => True) v109 t108) ∧ Aside0 (Below w.heap.size w w'))
                          case atStart => exact ⟨(x11_3), (0), (by first | rfl | (simp; done) | (simp [*]; done)), (by first | rfl | (simp; done) | (simp [*]; done)), H', ⟨Nat.le_refl _⟩, ⟨by (with_reducible repeat (first | apply Kd.R_alloc | apply Kd.R_drewN | apply Kd.R_drew)); exact HO_5.out⟩, ⟨by repeat (first | (with_reducible first | exact HB.out | apply below_alloc | apply pw_below_drewN | apply below_drew1) | exact HB.out)⟩⟩
                          case round =>
                            clear H'
                            try clear c1
                            try clear p1
                            try clear q1
                            try clear hx1
                            try clear c2
                            try clear p2
                            try clear c3
                            try clear c4
                            try clear q4
                            try clear c5
                            try clear p6
                            try clear c11
                            try clear p11
                            try clear q11
                            try clear hx11
                            try clear c12
                            try clear p12
                            try clear q12
                            try clear hx12
                            try clear c19
                            try clear c19b0
                            try clear c20
                            try clear c21
                            try clear c22
                            try clear c22b0
                            try clear c23
                            try clear c24
                            try clear c24b0
                            try clear c25
                            try clear c27
                            try clear c28
                            try clear c33
                            try clear c33b0
                            try clear c34
                            try clear c34b0
                            try clear c35
                            try clear c35b0
                            try clear c36
                            try clear c36b0
                            try clear c38
                            try clear c38b0
                            try clear c39
                            try clear c39b0
                            try clear c40
                            try clear c40b0
                            try clear c47
                            try clear c47b0
                            try clear q48
                            try clear c49
                            try clear c50
                            try clear c58
                            try clear c58b0
                            try clear c59
                            try clear hx115_0
                            try clear hx116_0
                            try clear hx117_0
                            try clear hx118_0
                            try clear hx119_0
                            try clear hx120_0
                            try clear hx121_0
                            try clear hx122_0
                            try clear hx123_0
                            try clear hx124_0
                            try clear hx125_0
                            try clear hx126_0
                            try clear hx127_0
                            try clear p1
                            try clear p11
                            try clear p115
                            try clear p116
                            try clear p117
                            try clear p118
                            try clear p119
                            try clear p12
                            try clear p120
                            try clear p121
                            try clear p122
                            try clear p123
                            try clear p124
                            try clear p125
                            try clear p126
                            try clear p127
                            try clear p2
                            try clear p6
                            try clear q1
                            try clear q11
                            try clear q115
                            try clear q116
                            try clear q117
                            try clear q118
                            try clear q119
                            try clear q12
                            try clear q120
                            try clear q121
                            try clear q122
                            try clear q123
                            try clear q124
                            try clear q125
                            try clear q126
                            try clear q127
                            try clear q4
                            try clear q48
                            obtain ⟨x11_5, x13_5, rfl, rfl, HA, HK5, HO_5, HB⟩ := hrel
                            cases gk with
                            | zero => exact absurd HA.out (by simp [ferrulelaw11_GraphCloses.l3])
                            | succ k5 =>
                              have H := HA.out
                              clear HA
                              simp only [ferrulelaw11_GraphCloses.l3] at H
                              by_cases c60 : 0 ≤ x12_3
                              · rw [if_pos c60] at H
                                have c60b0 : decide (0 ≤ x12_3) = true := decide_eq_true c60
                                clear c60
                                by_cases c61 : x12_3 < (l1.length : Int)
                                · rw [if_pos c61] at H
                                  have c61b0 : decide (x12_3 < (l1.length : Int)) = true := decide_eq_true c61
                                  clear c61
                                  by_cases c62 : x13_5 < ((rd_L1 l1 x12_3).length : Int)
                                  · rw [if_pos c62] at H
                                    have c62b0 : decide (x13_5 < ((rd_L1 l1 x12_3).length : Int)) = true := decide_eq_true c62
                                    clear c62
                                    have HC63 := Aside0.mk H
                                    clear H
                                    have p128 : 0 ≤ (x12_3 : Int) := of_decide_eq_true (by first | (with_reducible assumption) | assumption)
                                    have q128 : x12_3 < (l1.length : Int) := of_decide_eq_true (by first | (with_reducible assumption) | assumption)
                                    obtain ⟨ad128, A128_0, c128_0, e128, hx128_0, hl128_0, hi128_0⟩ := at_L1 HR1.out x12_3 p128 q128
                                    cases e128
                                    replace hx128_0 := (HB.out.cell (World.block_lt_of_cell? w _ hx128_0)).trans hx128_0
                                    have HR128_0 := Aside0.mk hi128_0
                                    have HC128_0 := Aside0.mk hl128_0
                                    clear hi128_0 hl128_0
                                    replace p128 := eq_true p128
                                    replace q128 := eq_true q128
                                    go_upto_region 29 with (fail)
                                    repeat (go_quiet (fail); go_upto_region 29 with (fail))
                                    go_cut [141] (fun v141 wc => ∃ (kq : Nat) (x141_62 : Bool), v141 = .bool x141_62 ∧ Aside0 (ferrulelaw11_GraphCloses.j6 kq (wrap64 (1 + (Go.bits .and .i64 a0 31))) l1 t108 x7_2 x11_5 x12_3 x13_5 x141_62 = some r) ∧ Aside0 (kq ≤ k5) ∧ Aside0 (Kd.R Kd.bool 4 wc w.heap.size (fun _ => True) v109 t108) ∧ Aside0 (Below w.heap.size w wc))
                                    case first =>
                                      have H := HC63.out
                                      clear HC63
                                      by_cases c64 : 0 ≤ x13_5
                                      · rw [if_pos c64] at H
                                        have c64b0 : decide (0 ≤ x13_5) = true := decide_eq_true c64
                                        clear c64
                                        (first | rw [c64b0] | (simp only [i64_w, i32_w]; rw [c64b0]) | skip)
                                        by_cases c65 : (rd (rd_L1 l1 x12_3) x13_5) < 0
                                        · rw [if_pos c65] at H
                                          have c65b0 : decide ((rd (rd_L1 l1 x12_3) x13_5) < 0) = true := decide_eq_true c65
                                          clear c65
                                          have H' := Aside0.mk H
                                          clear H
                                          have p129 : 0 ≤ (x12_3 : Int) := of_decide_eq_true (by first | (with_reducible assumption) | assumption)
                                          have q129 : x12_3 < (l1.length : Int) := of_decide_eq_true (by first | (with_reducible assumption) | assumption)
                                          obtain ⟨ad129, A129_0, c129_0, e129, hx129_0, hl129_0, hi129_0⟩ := at_L1 HR1.out x12_3 p129 q129
                                          obtain rfl : ad128 = ad129 := (by injection e129)
                                          replace hx129_0 := (HB.out.cell (World.block_lt_of_cell? w _ hx129_0)).trans hx129_0
                                          have HR129_0 := Aside0.mk hi129_0
                                          have HC129_0 := Aside0.mk hl129_0
                                          clear hi129_0 hl129_0
                                          replace p129 := eq_true p129
                                          replace q129 := eq_true q129
                                          have ea_ := Option.some.inj (hx128_0.symm.trans hx129_0)
                                          injection ea_ with ea_ en_ ec_
                                          subst ea_
                                          subst ec_
                                          clear en_
                                          have p130 : 0 ≤ (x13_5 : Int) := of_decide_eq_true (by first | (with_reducible assumption) | assumption)
                                          have q130 : x13_5 < ((rd_L1 l1 x12_3).length : Int) := of_decide_eq_true (by first | (with_reducible assumption) | assumption)
                                          obtain ⟨ad130, e130, hx130_0⟩ := Kd.at_int HR129_0.out x13_5 p130 q130
                                          cases e130
                                          replace hx130_0 := (HB.out.cell (World.block_lt_of_cell? w _ hx130_0)).trans hx130_0
                                          replace p130 := eq_true p130
                                          replace q130 := eq_true q130
                                          go_wp2
                                          repeat (go_quiet (fail); try go_wp2)
                                          go_meet
                                          case rel => exact ⟨_, (true), (by first | rfl | (simp; done) | (simp [*]; done)), H', ⟨by have := HJ6.out; have := HK2.out; have := HK3.out; have := HJ56.out; have := HK5.out; first | omega | exact Nat.le_refl _⟩, ⟨by (with_reducible repeat (first | apply Kd.R_alloc | apply Kd.R_drewN | apply Kd.R_drew)); exact HO_5.out⟩, ⟨by repeat (first | (with_reducible first | exact HB.out | apply below_alloc | apply pw_below_drewN | apply below_drew1) | exact HB.out)⟩⟩
                                        · rw [if_neg c65] at H
                                          have c65b0 : decide ((rd (rd_L1 l1 x12_3) x13_5) < 0) = false := decide_eq_false c65
                                          clear c65
                                          have H' := Aside0.mk H
                                          clear H
                                          have p129 : 0 ≤ (x12_3 : Int) := of_decide_eq_true (by first | (with_reducible assumption) | assumption)
                                          have q129 : x12_3 < (l1.length : Int) := of_decide_eq_true (by first | (with_reducible assumption) | assumption)
                                          obtain ⟨ad129, A129_0, c129_0, e129, hx129_0, hl129_0, hi129_0⟩ := at_L1 HR1.out x12_3 p129 q129
                                          obtain rfl : ad128 = ad129 := (by injection e129)
                                          replace hx129_0 := (HB.out.cell (World.block_lt_of_cell? w _ hx129_0)).trans hx129_0
                                          have HR129_0 := Aside0.mk hi129_0
                                          have HC129_0 := Aside0.mk hl129_0
                                          clear hi129_0 hl129_0
                                          replace p129 := eq_true p129
                                          replace q129 := eq_true q129
                                          have ea_ := Option.some.inj (hx128_0.symm.trans hx129_0)
                                          injection ea_ with ea_ en_ ec_
                                          subst ea_
                                          subst ec_
                                          clear en_
                                          have p130 : 0 ≤ (x13_5 : Int) := of_decide_eq_true (by first | (with_reducible assumption) | assumption)
                                          have q130 : x13_5 < ((rd_L1 l1 x12_3).length : Int) := of_decide_eq_true (by first | (with_reducible assumption) | assumption)
                                          obtain ⟨ad130, e130, hx130_0⟩ := Kd.at_int HR129_0.out x13_5 p130 q130
                                          cases e130
                                          replace hx130_0 := (HB.out.cell (World.block_lt_of_cell? w _ hx130_0)).trans hx130_0
                                          replace p130 := eq_true p130
                                          replace q130 := eq_true q130
                                          have p131 : 0 ≤ (x12_3 : Int) := of_decide_eq_true (by first | (with_reducible assumption) | assumption)
                                          have q131 : x12_3 < (l1.length : Int) := of_decide_eq_true (by first | (with_reducible assumption) | assumption)
                                          obtain ⟨ad131, A131_0, c131_0, e131, hx131_0, hl131_0, hi131_0⟩ := at_L1 HR1.out x12_3 p131 q131
                                          obtain rfl : ad128 = ad131 := (by injection e131)
                                          replace hx131_0 := (HB.out.cell (World.block_lt_of_cell? w _ hx131_0)).trans hx131_0
                                          have HR131_0 := Aside0.mk hi131_0
                                          have HC131_0 := Aside0.mk hl131_0
                                          clear hi131_0 hl131_0
                                          replace p131 := eq_true p131
                                          replace q131 := eq_true q131
                                          have ea_ := Option.some.inj (hx129_0.symm.trans hx131_0)
                                          injection ea_ with ea_ en_ ec_
                                          subst ea_
                                          subst ec_
                                          clear en_
                                          have p132 : 0 ≤ (x13_5 : Int) := of_decide_eq_true (by first | (with_reducible assumption) | assumption)
                                          have q132 : x13_5 < ((rd_L1 l1 x12_3).length : Int) := of_decide_eq_true (by first | (with_reducible assumption) | assumption)
                                          obtain ⟨ad132, e132, hx132_0⟩ := Kd.at_int HR131_0.out x13_5 p132 q132
                                          cases e132
                                          replace hx132_0 := (HB.out.cell (World.block_lt_of_cell? w _ hx132_0)).trans hx132_0
                                          replace p132 := eq_true p132
                                          replace q132 := eq_true q132
                                          go_wp2
                                          repeat (go_quiet (fail); try go_wp2)
                                          go_meet
                                          case rel => exact ⟨_, (decide ((rd (rd_L1 l1 x12_3) x13_5) ≥ (wrap64 (1 + (Go.bits .and .i64 a0 31))))), (by first | rfl | (simp; done) | (simp [*]; done)), H', ⟨by have := HJ6.out; have := HK2.out; have := HK3.out; have := HJ56.out; have := HK5.out; first | omega | exact Nat.le_refl _⟩, ⟨by (with_reducible repeat (first | apply Kd.R_alloc | apply Kd.R_drewN | apply Kd.R_drew)); exact HO_5.out⟩, ⟨by repeat (first | (with_reducible first | exact HB.out | apply below_alloc | apply pw_below_drewN | apply below_drew1) | exact HB.out)⟩⟩
                                      · rw [if_neg c64] at H
                                        exact absurd H (by simp)
                                    case rest =>
                                      clear HC63
                                      try clear c1
                                      try clear p1
                                      try clear q1
                                      try clear hx1
                                      try clear c2
                                      try clear p2
                                      try clear c3
                                      try clear c4
                                      try clear q4
                                      try clear c5
                                      try clear c6
                                      try clear p6
                                      try clear c11
                                      try clear p11
                                      try clear q11
                                      try clear hx11
                                      try clear c12
                                      try clear p12
                                      try clear q12
                                      try clear hx12
                                      try clear c13
                                      try clear p13
                                      try clear q13
                                      try clear hx13
                                      try clear c19
                                      try clear c19b0
                                      try clear c20
                                      try clear c21
                                      try clear c22
                                      try clear c22b0
                                      try clear c23
                                      try clear c24
                                      try clear c24b0
                                      try clear c25
                                      try clear c27
                                      try clear c28
                                      try clear c33
                                      try clear c33b0
                                      try clear c34
                                      try clear c34b0
                                      try clear c35
                                      try clear c35b0
                                      try clear c36
                                      try clear c36b0
                                      try clear c38
                                      try clear c38b0
                                      try clear c39
                                      try clear c39b0
                                      try clear c40
                                      try clear c40b0
                                      try clear c47
                                      try clear c47b0
                                      try clear q48
                                      try clear c49
                                      try clear c50
                                      try clear c58
                                      try clear c58b0
                                      try clear c59
                                      try clear c60
                                      try clear c60b0
                                      try clear c61
                                      try clear c61b0
                                      try clear c62
                                      try clear c62b0
                                      try clear c64
                                      try clear c64b0
                                      try clear p64
                                      try clear c65
                                      try clear c65b0
                                      try clear hx115_0
                                      try clear hx116_0
                                      try clear hx117_0
                                      try clear hx118_0
                                      try clear hx119_0
                                      try clear hx120_0
                                      try clear hx121_0
                                      try clear hx122_0
                                      try clear hx123_0
                                      try clear hx124_0
                                      try clear hx125_0
                                      try clear hx126_0
                                      try clear hx127_0
                                      try clear hx128_0
                                      try clear hx129_0
                                      try clear hx130_0
                                      try clear hx131_0
                                      try clear hx132_0
                                      try clear p1
                                      try clear p11
                                      try clear p115
                                      try clear p116
                                      try clear p117
                                      try clear p118
                                      try clear p119
                                      try clear p12
                                      try clear p120
                                      try clear p121
                                      try clear p122
                                      try clear p123
                                      try clear p124
                                      try clear p125
                                      try clear p126
                                      try clear p127
                                      try clear p128
                                      try clear p129
                                      try clear p130
                                      try clear p131
                                      try clear p132
                                      try clear p2
                                      try clear p6
                                      try clear q1
                                      try clear q11
                                      try clear q115
                                      try clear q116
                                      try clear q117
                                      try clear q118
                                      try clear q119
                                      try clear q12
                                      try clear q120
                                      try clear q121
                                      try clear q122
                                      try clear q123
                                      try clear q124
                                      try clear q125
                                      try clear q126
                                      try clear q127
                                      try clear q128
                                      try clear q129
                                      try clear q130
                                      try clear q131
                                      try clear q132
                                      try clear q4
                                      try clear q48
                                      obtain ⟨kq, x141_62, rfl, HA, HJ62, HO_5, HB⟩ := hcut
                                      cases kq with
                                      | zero => exact absurd HA.out (by simp [ferrulelaw11_GraphCloses.j6])
                                      | succ kj62 =>
                                        have H := HA.out
                                        clear HA
                                        simp only [ferrulelaw11_GraphCloses.j6] at H
                                        by_cases c66 : x141_62 = true
                                        · subst c66
                                          have H1 : (ferrulelaw11_GraphCloses.l3 kj62 (wrap64 (1 + (Go.bits .and .i64 a0 31))) l1 t108 x7_2 x11_5 x12_3 (wrap64 (x13_5 + 1))) = some r := by rw [if_pos rfl] at H; exact H
                                          clear H
                                          have H := H1
                                          clear H1
                                          have H' := Aside0.mk H
                                          clear H
                                          go_wp2
                                          repeat (go_quiet (fail); try go_wp2)
                                          go_roundg kj62
                                          case measure => have := HJ6.out; have := HK2.out; have := HK3.out; have := HJ56.out; have := HK5.out; have := HJ62.out; omega
                                          case rel => exact ⟨(x11_5), (wrap64 (x13_5 + 1)), (by first | rfl | (simp; done) | (simp [*]; done)), (by first | rfl | (simp; done) | (simp [*]; done)), H', ⟨by have := HJ6.out; have := HK2.out; have := HK3.out; have := HJ56.out; have := HK5.out; have := HJ62.out; omega⟩, ⟨by (with_reducible repeat (first | apply Kd.R_alloc | apply Kd.R_drewN | apply Kd.R_drew)); exact HO_5.out⟩, ⟨by repeat (first | (with_reducible first | exact HB.out | apply below_alloc | apply pw_below_drewN | apply below_drew1) | exact HB.out)⟩⟩
                                        · replace c66 := Bool.eq_false_iff.mpr c66
                                          subst c66
                                          have H1 : (ferrulelaw11_GraphCloses.l4 kj62 (wrap64 (1 + (Go.bits .and .i64 a0 31))) l1 t108 x7_2 x11_5 x12_3 x13_5 true 0) = some r := by rw [if_neg (show ¬ (false = true) by decide)] at H; exact H
                                          clear H
                                          have H := H1
                                          clear H1
                                          have H' := Aside0.mk H
                                          clear H
                                          go_wp2
                                          repeat (go_quiet (fail); try go_wp2)
                                          go_loopg [14, 15] kj62 (fun kq v14 v15 w' => ∃ (x14_7 : Bool) (x15_7 : Int), v14 = .bool x14_7 ∧ v15 = .int .i64 x15_7 ∧ Aside0 (ferrulelaw11_GraphCloses.l4 kq (wrap64 (1 + (Go.bits .and .i64 a0 31))) l1 t108 x7_2 x11_5 x12_3 x13_5 x14_7 x15_7 = some r) ∧ Aside0 (kq ≤ kj62) ∧ Aside0 (Kd.R Kd.bool 4 w' w.heap.size (fun _ => True) v109 t108) ∧ Aside0 (Below w.heap.size w w'))
                                          case atStart => exact ⟨(true), (0), (by first | rfl | (simp; done) | (simp [*]; done)), (by first | rfl | (simp; done) | (simp [*]; done)), H', ⟨Nat.le_refl _⟩, ⟨by (with_reducible repeat (first | apply Kd.R_alloc | apply Kd.R_drewN | apply Kd.R_drew)); exact HO_5.out⟩, ⟨by repeat (first | (with_reducible first | exact HB.out | apply below_alloc | apply pw_below_drewN | apply below_drew1) | exact HB.out)⟩⟩
                                          case round =>
                                            clear H'
                                            try clear c1
                                            try clear p1
                                            try clear q1
                                            try clear hx1
                                            try clear c2
                                            try clear p2
                                            try clear c3
                                            try clear c4
                                            try clear q4
                                            try clear c5
                                            try clear c6
                                            try clear p6
                                            try clear c11
                                            try clear p11
                                            try clear q11
                                            try clear hx11
                                            try clear c12
                                            try clear p12
                                            try clear q12
                                            try clear hx12
                                            try clear c13
                                            try clear p13
                                            try clear q13
                                            try clear hx13
                                            try clear c19
                                            try clear c19b0
                                            try clear c20
                                            try clear c21
                                            try clear c22
                                            try clear c22b0
                                            try clear c23
                                            try clear c24
                                            try clear c24b0
                                            try clear c25
                                            try clear c27
                                            try clear c28
                                            try clear c33
                                            try clear c33b0
                                            try clear c34
                                            try clear c34b0
                                            try clear c35
                                            try clear c35b0
                                            try clear c36
                                            try clear c36b0
                                            try clear c38
                                            try clear c38b0
                                            try clear c39
                                            try clear c39b0
                                            try clear c40
                                            try clear c40b0
                                            try clear c47
                                            try clear c47b0
                                            try clear q48
                                            try clear c49
                                            try clear c50
                                            try clear c58
                                            try clear c58b0
                                            try clear c59
                                            try clear c60
                                            try clear c60b0
                                            try clear c61
                                            try clear c61b0
                                            try clear c62
                                            try clear c62b0
                                            try clear c64
                                            try clear c64b0
                                            try clear p64
                                            try clear c65
                                            try clear c65b0
                                            try clear c66
                                            try clear hx115_0
                                            try clear hx116_0
                                            try clear hx117_0
                                            try clear hx118_0
                                            try clear hx119_0
                                            try clear hx120_0
                                            try clear hx121_0
                                            try clear hx122_0
                                            try clear hx123_0
                                            try clear hx124_0
                                            try clear hx125_0
                                            try clear hx126_0
                                            try clear hx127_0
                                            try clear hx128_0
                                            try clear hx129_0
                                            try clear hx130_0
                                            try clear hx131_0
                                            try clear hx132_0
                                            try clear p1
                                            try clear p11
                                            try clear p115
                                            try clear p116
                                            try clear p117
                                            try clear p118
                                            try clear p119
                                            try clear p12
                                            try clear p120
                                            try clear p121
                                            try clear p122
                                            try clear p123
                                            try clear p124
                                            try clear p125
                                            try clear p126
                                            try clear p127
                                            try clear p128
                                            try clear p129
                                            try clear p13
                                            try clear p130
                                            try clear p131
                                            try clear p132
                                            try clear p2
                                            try clear p6
                                            try clear p64
                                            try clear q1
                                            try clear q11
                                            try clear q115
                                            try clear q116
                                            try clear q117
                                            try clear q118
                                            try clear q119
                                            try clear q12
                                            try clear q120
                                            try clear q121
                                            try clear q122
                                            try clear q123
                                            try clear q124
                                            try clear q125
                                            try clear q126
                                            try clear q127
                                            try clear q128
                                            try clear q129
                                            try clear q13
                                            try clear q130
                                            try clear q131
                                            try clear q132
                                            try clear q4
                                            try clear q48
                                            obtain ⟨x14_7, x15_7, rfl, rfl, HA, HK7, HO_5, HB⟩ := hrel
                                            cases gk with
                                            | zero => exact absurd HA.out (by simp [ferrulelaw11_GraphCloses.l4])
                                            | succ k7 =>
                                              have H := HA.out
                                              clear HA
                                              simp only [ferrulelaw11_GraphCloses.l4] at H
                                              by_cases c67 : x15_7 < x13_5
                                              · rw [if_pos c67] at H
                                                have c67b0 : decide (x15_7 < x13_5) = true := decide_eq_true c67
                                                clear c67
                                                by_cases c68 : x14_7 = true
                                                · subst c68
                                                  have H1 : (if 0 ≤ x12_3 then (if x12_3 < (l1.length : Int) then (if 0 ≤ x15_7 then (if x15_7 < ((rd_L1 l1 x12_3).length : Int) then (if 0 ≤ x13_5 then (if x13_5 < ((rd_L1 l1 x12_3).length : Int) then (ferrulelaw11_GraphCloses.l4 k7 (wrap64 (1 + (Go.bits .and .i64 a0 31))) l1 t108 x7_2 x11_5 x12_3 x13_5 ((rd (rd_L1 l1 x12_3) x15_7) != (rd (rd_L1 l1 x12_3) x13_5)) (wrap64 (x15_7 + 1))) else (none)) else (none)) else (none)) else (none)) else (none)) else (none)) = some r := by rw [if_pos rfl] at H; exact H
                                                  clear H
                                                  have H := H1
                                                  clear H1
                                                  by_cases c69 : 0 ≤ x12_3
                                                  · rw [if_pos c69] at H
                                                    have c69b0 : decide (0 ≤ x12_3) = true := decide_eq_true c69
                                                    clear c69
                                                    by_cases c70 : x12_3 < (l1.length : Int)
                                                    · rw [if_pos c70] at H
                                                      have c70b0 : decide (x12_3 < (l1.length : Int)) = true := decide_eq_true c70
                                                      clear c70
                                                      by_cases c71 : 0 ≤ x15_7
                                                      · rw [if_pos c71] at H
                                                        have c71b0 : decide (0 ≤ x15_7) = true := decide_eq_true c71
                                                        clear c71
                                                        by_cases c72 : x15_7 < ((rd_L1 l1 x12_3).length : Int)
                                                        · rw [if_pos c72] at H
                                                          have c72b0 : decide (x15_7 < ((rd_L1 l1 x12_3).length : Int)) = true := decide_eq_true c72
                                                          clear c72
                                                          by_cases c73 : 0 ≤ x13_5
                                                          · rw [if_pos c73] at H
                                                            have c73b0 : decide (0 ≤ x13_5) = true := decide_eq_true c73
                                                            clear c73
                                                            by_cases c74 : x13_5 < ((rd_L1 l1 x12_3).length : Int)
                                                            · rw [if_pos c74] at H
                                                              have c74b0 : decide (x13_5 < ((rd_L1 l1 x12_3).length : Int)) = true := decide_eq_true c74
                                                              clear c74
                                                              have H' := Aside0.mk H
                                                              clear H
                                                              have p133 : 0 ≤ (x12_3 : Int) := of_decide_eq_true (by first | (with_reducible assumption) | assumption)
                                                              have q133 : x12_3 < (l1.length : Int) := of_decide_eq_true (by first | (with_reducible assumption) | assumption)
                                                              obtain ⟨ad133, A133_0, c133_0, e133, hx133_0, hl133_0, hi133_0⟩ := at_L1 HR1.out x12_3 p133 q133
                                                              obtain rfl : ad128 = ad133 := (by injection e133)
                                                              replace hx133_0 := (HB.out.cell (World.block_lt_of_cell? w _ hx133_0)).trans hx133_0
                                                              have HR133_0 := Aside0.mk hi133_0
                                                              have HC133_0 := Aside0.mk hl133_0
                                                              clear hi133_0 hl133_0
                                                              replace p133 := eq_true p133
                                                              replace q133 := eq_true q133
                                                              have p134 : 0 ≤ (x15_7 : Int) := of_decide_eq_true (by first | (with_reducible assumption) | assumption)
                                                              have q134 : x15_7 < ((rd_L1 l1 x12_3).length : Int) := of_decide_eq_true (by first | (with_reducible assumption) | assumption)
                                                              obtain ⟨ad134, e134, hx134_0⟩ := Kd.at_int HR133_0.out x15_7 p134 q134
                                                              cases e134
                                                              replace hx134_0 := (HB.out.cell (World.block_lt_of_cell? w _ hx134_0)).trans hx134_0
                                                              replace p134 := eq_true p134
                                                              replace q134 := eq_true q134
                                                              have p135 : 0 ≤ (x12_3 : Int) := of_decide_eq_true (by first | (with_reducible assumption) | assumption)
                                                              have q135 : x12_3 < (l1.length : Int) := of_decide_eq_true (by first | (with_reducible assumption) | assumption)
                                                              obtain ⟨ad135, A135_0, c135_0, e135, hx135_0, hl135_0, hi135_0⟩ := at_L1 HR1.out x12_3 p135 q135
                                                              obtain rfl : ad128 = ad135 := (by injection e135)
                                                              replace hx135_0 := (HB.out.cell (World.block_lt_of_cell? w _ hx135_0)).trans hx135_0
                                                              have HR135_0 := Aside0.mk hi135_0
                                                              have HC135_0 := Aside0.mk hl135_0
                                                              clear hi135_0 hl135_0
                                                              replace p135 := eq_true p135
                                                              replace q135 := eq_true q135
                                                              have ea_ := Option.some.inj (hx133_0.symm.trans hx135_0)
                                                              injection ea_ with ea_ en_ ec_
                                                              subst ea_
                                                              subst ec_
                                                              clear en_
                                                              have p136 : 0 ≤ (x13_5 : Int) := of_decide_eq_true (by first | (with_reducible assumption) | assumption)
                                                              have q136 : x13_5 < ((rd_L1 l1 x12_3).length : Int) := of_decide_eq_true (by first | (with_reducible assumption) | assumption)
                                                              obtain ⟨ad136, e136, hx136_0⟩ := Kd.at_int HR135_0.out x13_5 p136 q136
                                                              cases e136
                                                              replace hx136_0 := (HB.out.cell (World.block_lt_of_cell? w _ hx136_0)).trans hx136_0
                                                              replace p136 := eq_true p136
                                                              replace q136 := eq_true q136
                                                              go_wp2
                                                              repeat (go_quiet (fail); try go_wp2)
                                                              go_roundg k7
                                                              case measure => have := HJ6.out; have := HK2.out; have := HK3.out; have := HJ56.out; have := HK5.out; have := HJ62.out; have := HK7.out; omega
                                                              case rel => exact ⟨(((rd (rd_L1 l1 x12_3) x15_7) != (rd (rd_L1 l1 x12_3) x13_5))), (wrap64 (x15_7 + 1)), (by first | rfl | (simp; done) | (simp [*]; done)), (by first | rfl | (simp; done) | (simp [*]; done)), H', ⟨by have := HJ6.out; have := HK2.out; have := HK3.out; have := HJ56.out; have := HK5.out; have := HJ62.out; have := HK7.out; omega⟩, ⟨by (with_reducible repeat (first | apply Kd.R_alloc | apply Kd.R_drewN | apply Kd.R_drew)); exact HO_5.out⟩, ⟨by repeat (first | (with_reducible first | exact HB.out | apply below_alloc | apply pw_below_drewN | apply below_drew1) | exact HB.out)⟩⟩
                                                            · rw [if_neg c74] at H
                                                              exact absurd H (by simp)
                                                          · rw [if_neg c73] at H
                                                            exact absurd H (by simp)
                                                        · rw [if_neg c72] at H
                                                          exact absurd H (by simp)
                                                      · rw [if_neg c71] at H
                                                        exact absurd H (by simp)
                                                    · rw [if_neg c70] at H
                                                      exact absurd H (by simp)
                                                  · rw [if_neg c69] at H
                                                    exact absurd H (by simp)
                                                · replace c68 := Bool.eq_false_iff.mpr c68
                                                  subst c68
                                                  have H1 : (ferrulelaw11_GraphCloses.l4 k7 (wrap64 (1 + (Go.bits .and .i64 a0 31))) l1 t108 x7_2 x11_5 x12_3 x13_5 false (wrap64 (x15_7 + 1))) = some r := by rw [if_neg (show ¬ (false = true) by decide)] at H; exact H
                                                  clear H
                                                  have H := H1
                                                  clear H1
                                                  have H' := Aside0.mk H
                                                  clear H
                                                  go_wp2
                                                  repeat (go_quiet (fail); try go_wp2)
                                                  go_roundg k7
                                                  case measure => have := HJ6.out; have := HK2.out; have := HK3.out; have := HJ56.out; have := HK5.out; have := HJ62.out; have := HK7.out; omega
                                                  case rel => exact ⟨(false), (wrap64 (x15_7 + 1)), (by first | rfl | (simp; done) | (simp [*]; done)), (by first | rfl | (simp; done) | (simp [*]; done)), H', ⟨by have := HJ6.out; have := HK2.out; have := HK3.out; have := HJ56.out; have := HK5.out; have := HJ62.out; have := HK7.out; omega⟩, ⟨by (with_reducible repeat (first | apply Kd.R_alloc | apply Kd.R_drewN | apply Kd.R_drew)); exact HO_5.out⟩, ⟨by repeat (first | (with_reducible first | exact HB.out | apply below_alloc | apply pw_below_drewN | apply below_drew1) | exact HB.out)⟩⟩
                                              · rw [if_neg c67] at H
                                                have c67b0 : decide (x15_7 < x13_5) = false := decide_eq_false c67
                                                clear c67
                                                by_cases c75 : x14_7 = true
                                                · subst c75
                                                  have H1 : (if 0 ≤ x12_3 then (if x12_3 < (t108.length : Int) then (if rdOf false t108 x12_3 = true then (if x12_3 < (l1.length : Int) then (if 0 ≤ x13_5 then (if x13_5 < ((rd_L1 l1 x12_3).length : Int) then (if 0 ≤ (rd (rd_L1 l1 x12_3) x13_5) then (if (rd (rd_L1 l1 x12_3) x13_5) < (t108.length : Int) then (if (rdOf false t108 (rd (rd_L1 l1 x12_3) x13_5) = true) then (ferrulelaw11_GraphCloses.l3 k7 (wrap64 (1 + (Go.bits .and .i64 a0 31))) l1 t108 x7_2 (wrap64 (x11_5 + 1)) x12_3 (wrap64 (x13_5 + 1))) else (some false)) else (none)) else (none)) else (none)) else (none)) else (none)) else (ferrulelaw11_GraphCloses.l3 k7 (wrap64 (1 + (Go.bits .and .i64 a0 31))) l1 t108 x7_2 (wrap64 (x11_5 + 1)) x12_3 (wrap64 (x13_5 + 1)))) else (none)) else (none)) = some r := by rw [if_pos rfl] at H; exact H
                                                  clear H
                                                  have H := H1
                                                  clear H1
                                                  by_cases c76 : 0 ≤ x12_3
                                                  · rw [if_pos c76] at H
                                                    have c76b0 : decide (0 ≤ x12_3) = true := decide_eq_true c76
                                                    clear c76
                                                    by_cases c77 : x12_3 < (t108.length : Int)
                                                    · rw [if_pos c77] at H
                                                      have c77b0 : decide (x12_3 < (t108.length : Int)) = true := decide_eq_true c77
                                                      clear c77
                                                      obtain ⟨bq78, hbq78⟩ : ∃ b_ : Bool, b_ = (rdOf false t108 x12_3) := ⟨_, rfl⟩
                                                      replace H : (if bq78 = true then (if x12_3 < (l1.length : Int) then (if 0 ≤ x13_5 then (if x13_5 < ((rd_L1 l1 x12_3).length : Int) then (if 0 ≤ (rd (rd_L1 l1 x12_3) x13_5) then (if (rd (rd_L1 l1 x12_3) x13_5) < (t108.length : Int) then (if (rdOf false t108 (rd (rd_L1 l1 x12_3) x13_5) = true) then (ferrulelaw11_GraphCloses.l3 k7 (wrap64 (1 + (Go.bits .and .i64 a0 31))) l1 t108 x7_2 (wrap64 (x11_5 + 1)) x12_3 (wrap64 (x13_5 + 1))) else (some false)) else (none)) else (none)) else (none)) else (none)) else (none)) else (ferrulelaw11_GraphCloses.l3 k7 (wrap64 (1 + (Go.bits .and .i64 a0 31))) l1 t108 x7_2 (wrap64 (x11_5 + 1)) x12_3 (wrap64 (x13_5 + 1)))) = some r := by rw [← hbq78] at H; exact H
                                                      have Nbq78 := Aside0.mk hbq78
                                                      clear hbq78
                                                      by_cases c79 : bq78 = true
                                                      · subst c79
                                                        have H1 : (if x12_3 < (l1.length : Int) then (if 0 ≤ x13_5 then (if x13_5 < ((rd_L1 l1 x12_3).length : Int) then (if 0 ≤ (rd (rd_L1 l1 x12_3) x13_5) then (if (rd (rd_L1 l1 x12_3) x13_5) < (t108.length : Int) then (if (rdOf false t108 (rd (rd_L1 l1 x12_3) x13_5) = true) then (ferrulelaw11_GraphCloses.l3 k7 (wrap64 (1 + (Go.bits .and .i64 a0 31))) l1 t108 x7_2 (wrap64 (x11_5 + 1)) x12_3 (wrap64 (x13_5 + 1))) else (some false)) else (none)) else (none)) else (none)) else (none)) else (none)) = some r := by rw [if_pos rfl] at H; exact H
                                                        clear H
                                                        have H := H1
                                                        clear H1
                                                        by_cases c80 : x12_3 < (l1.length : Int)
                                                        · rw [if_pos c80] at H
                                                          have c80b0 : decide (x12_3 < (l1.length : Int)) = true := decide_eq_true c80
                                                          clear c80
                                                          by_cases c81 : 0 ≤ x13_5
                                                          · rw [if_pos c81] at H
                                                            have c81b0 : decide (0 ≤ x13_5) = true := decide_eq_true c81
                                                            clear c81
                                                            by_cases c82 : x13_5 < ((rd_L1 l1 x12_3).length : Int)
                                                            · rw [if_pos c82] at H
                                                              have c82b0 : decide (x13_5 < ((rd_L1 l1 x12_3).length : Int)) = true := decide_eq_true c82
                                                              clear c82
                                                              by_cases c83 : 0 ≤ (rd (rd_L1 l1 x12_3) x13_5)
                                                              · rw [if_pos c83] at H
                                                                have c83b0 : decide (0 ≤ (rd (rd_L1 l1 x12_3) x13_5)) = true := decide_eq_true c83
                                                                clear c83
                                                                by_cases c84 : (rd (rd_L1 l1 x12_3) x13_5) < (t108.length : Int)
                                                                · rw [if_pos c84] at H
                                                                  have c84b0 : decide ((rd (rd_L1 l1 x12_3) x13_5) < (t108.length : Int)) = true := decide_eq_true c84
                                                                  clear c84
                                                                  obtain ⟨bq85, hbq85⟩ : ∃ b_ : Bool, b_ = (rdOf false t108 (rd (rd_L1 l1 x12_3) x13_5)) := ⟨_, rfl⟩
                                                                  replace H : (if (bq85 = true) then (ferrulelaw11_GraphCloses.l3 k7 (wrap64 (1 + (Go.bits .and .i64 a0 31))) l1 t108 x7_2 (wrap64 (x11_5 + 1)) x12_3 (wrap64 (x13_5 + 1))) else (some false)) = some r := by rw [← hbq85] at H; exact H
                                                                  have Nbq85 := Aside0.mk hbq85
                                                                  clear hbq85
                                                                  by_cases c86 : (bq85 = true)
                                                                  · subst c86
                                                                    have H1 : (ferrulelaw11_GraphCloses.l3 k7 (wrap64 (1 + (Go.bits .and .i64 a0 31))) l1 t108 x7_2 (wrap64 (x11_5 + 1)) x12_3 (wrap64 (x13_5 + 1))) = some r := by rw [if_pos rfl] at H; exact H
                                                                    clear H
                                                                    have H := H1
                                                                    clear H1
                                                                    have H' := Aside0.mk H
                                                                    clear H
                                                                    obtain ⟨Ao87, co87, eo87⟩ := Kd.R_slice HO_5.out
                                                                    subst eo87
                                                                    have p137 : 0 ≤ (x12_3 : Int) := of_decide_eq_true (by first | (with_reducible assumption) | assumption)
                                                                    have q137 : x12_3 < (t108.length : Int) := of_decide_eq_true (by first | (with_reducible assumption) | assumption)
                                                                    obtain ⟨ad137, e137, hx137_0⟩ := Kd.at_bool (Kd.R_reads' HO_5.out).2.2 x12_3 p137 q137
                                                                    (try rw [← Nbq78.out] at hx137_0)
                                                                    (try rw [← Nbq85.out] at hx137_0)
                                                                    cases e137
                                                                    replace p137 := eq_true p137
                                                                    replace q137 := eq_true q137
                                                                    have p138 : 0 ≤ (x12_3 : Int) := of_decide_eq_true (by first | (with_reducible assumption) | assumption)
                                                                    have q138 : x12_3 < (l1.length : Int) := of_decide_eq_true (by first | (with_reducible assumption) | assumption)
                                                                    obtain ⟨ad138, A138_0, c138_0, e138, hx138_0, hl138_0, hi138_0⟩ := at_L1 HR1.out x12_3 p138 q138
                                                                    obtain rfl : ad128 = ad138 := (by injection e138)
                                                                    replace hx138_0 := (HB.out.cell (World.block_lt_of_cell? w _ hx138_0)).trans hx138_0
                                                                    have HR138_0 := Aside0.mk hi138_0
                                                                    have HC138_0 := Aside0.mk hl138_0
                                                                    clear hi138_0 hl138_0
                                                                    replace p138 := eq_true p138
                                                                    replace q138 := eq_true q138
                                                                    have p139 : 0 ≤ (x13_5 : Int) := of_decide_eq_true (by first | (with_reducible assumption) | assumption)
                                                                    have q139 : x13_5 < ((rd_L1 l1 x12_3).length : Int) := of_decide_eq_true (by first | (with_reducible assumption) | assumption)
                                                                    obtain ⟨ad139, e139, hx139_0⟩ := Kd.at_int HR138_0.out x13_5 p139 q139
                                                                    cases e139
                                                                    replace hx139_0 := (HB.out.cell (World.block_lt_of_cell? w _ hx139_0)).trans hx139_0
                                                                    replace p139 := eq_true p139
                                                                    replace q139 := eq_true q139
                                                                    have p140 : 0 ≤ ((rd (rd_L1 l1 x12_3) x13_5) : Int) := of_decide_eq_true (by first | (with_reducible assumption) | assumption)
                                                                    have q140 : (rd (rd_L1 l1 x12_3) x13_5) < (t108.length : Int) := of_decide_eq_true (by first | (with_reducible assumption) | assumption)
                                                                    obtain ⟨ad140, e140, hx140_0⟩ := Kd.at_bool (Kd.R_reads' HO_5.out).2.2 (rd (rd_L1 l1 x12_3) x13_5) p140 q140
                                                                    (try rw [← Nbq78.out] at hx140_0)
                                                                    (try rw [← Nbq85.out] at hx140_0)
                                                                    obtain rfl : ad137 = ad140 := (by injection e140)
                                                                    replace p140 := eq_true p140
                                                                    replace q140 := eq_true q140
                                                                    go_wp2
                                                                    repeat (go_quiet (fail); try go_wp2)
                                                                    go_roundg k7
                                                                    case measure => have := HJ6.out; have := HK2.out; have := HK3.out; have := HJ56.out; have := HK5.out; have := HJ62.out; have := HK7.out; omega
                                                                    case rel => exact ⟨(wrap64 (x11_5 + 1)), (wrap64 (x13_5 + 1)), (by first | rfl | (simp; done) | (simp [*]; done)), (by first | rfl | (simp; done) | (simp [*]; done)), H', ⟨by have := HJ6.out; have := HK2.out; have := HK3.out; have := HJ56.out; have := HK5.out; have := HJ62.out; have := HK7.out; omega⟩, ⟨by (with_reducible repeat (first | apply Kd.R_alloc | apply Kd.R_drewN | apply Kd.R_drew)); exact HO_5.out⟩, ⟨by repeat (first | (with_reducible first | exact HB.out | apply below_alloc | apply pw_below_drewN | apply below_drew1) | exact HB.out)⟩⟩
                                                                  · replace c86 := Bool.eq_false_iff.mpr c86
                                                                    subst c86
                                                                    have H1 : (some false) = some r := by rw [if_neg (show ¬ (false = true) by decide)] at H; exact H
                                                                    clear H
                                                                    have H := H1
                                                                    clear H1
                                                                    obtain rfl := Option.some.inj H
                                                                    obtain ⟨Ao88, co88, eo88⟩ := Kd.R_slice HO_5.out
                                                                    subst eo88
                                                                    have p137 : 0 ≤ (x12_3 : Int) := of_decide_eq_true (by first | (with_reducible assumption) | assumption)
                                                                    have q137 : x12_3 < (t108.length : Int) := of_decide_eq_true (by first | (with_reducible assumption) | assumption)
                                                                    obtain ⟨ad137, e137, hx137_0⟩ := Kd.at_bool (Kd.R_reads' HO_5.out).2.2 x12_3 p137 q137
                                                                    (try rw [← Nbq78.out] at hx137_0)
                                                                    (try rw [← Nbq85.out] at hx137_0)
                                                                    cases e137
                                                                    replace p137 := eq_true p137
                                                                    replace q137 := eq_true q137
                                                                    have p138 : 0 ≤ (x12_3 : Int) := of_decide_eq_true (by first | (with_reducible assumption) | assumption)
                                                                    have q138 : x12_3 < (l1.length : Int) := of_decide_eq_true (by first | (with_reducible assumption) | assumption)
                                                                    obtain ⟨ad138, A138_0, c138_0, e138, hx138_0, hl138_0, hi138_0⟩ := at_L1 HR1.out x12_3 p138 q138
                                                                    obtain rfl : ad128 = ad138 := (by injection e138)
                                                                    replace hx138_0 := (HB.out.cell (World.block_lt_of_cell? w _ hx138_0)).trans hx138_0
                                                                    have HR138_0 := Aside0.mk hi138_0
                                                                    have HC138_0 := Aside0.mk hl138_0
                                                                    clear hi138_0 hl138_0
                                                                    replace p138 := eq_true p138
                                                                    replace q138 := eq_true q138
                                                                    have p139 : 0 ≤ (x13_5 : Int) := of_decide_eq_true (by first | (with_reducible assumption) | assumption)
                                                                    have q139 : x13_5 < ((rd_L1 l1 x12_3).length : Int) := of_decide_eq_true (by first | (with_reducible assumption) | assumption)
                                                                    obtain ⟨ad139, e139, hx139_0⟩ := Kd.at_int HR138_0.out x13_5 p139 q139
                                                                    cases e139
                                                                    replace hx139_0 := (HB.out.cell (World.block_lt_of_cell? w _ hx139_0)).trans hx139_0
                                                                    replace p139 := eq_true p139
                                                                    replace q139 := eq_true q139
                                                                    have p140 : 0 ≤ ((rd (rd_L1 l1 x12_3) x13_5) : Int) := of_decide_eq_true (by first | (with_reducible assumption) | assumption)
                                                                    have q140 : (rd (rd_L1 l1 x12_3) x13_5) < (t108.length : Int) := of_decide_eq_true (by first | (with_reducible assumption) | assumption)
                                                                    obtain ⟨ad140, e140, hx140_0⟩ := Kd.at_bool (Kd.R_reads' HO_5.out).2.2 (rd (rd_L1 l1 x12_3) x13_5) p140 q140
                                                                    (try rw [← Nbq78.out] at hx140_0)
                                                                    (try rw [← Nbq85.out] at hx140_0)
                                                                    obtain rfl : ad137 = ad140 := (by injection e140)
                                                                    replace p140 := eq_true p140
                                                                    replace q140 := eq_true q140
                                                                    go_wp2
                                                                    repeat (go_quiet (fail); try go_wp2)
                                                                    go_ret
                                                                    exact ⟨by first | rfl | (simp [errW_none, errW_some] <;> rfl) | (simp [*, errW_none, errW_some] <;> rfl), by repeat (first | (with_reducible first | exact HB.out | apply below_alloc | apply pw_below_drewN | apply below_drew1) | exact HB.out)⟩
                                                                · rw [if_neg c84] at H
                                                                  exact absurd H (by simp)
                                                              · rw [if_neg c83] at H
                                                                exact absurd H (by simp)
                                                            · rw [if_neg c82] at H
                                                              exact absurd H (by simp)
                                                          · rw [if_neg c81] at H
                                                            exact absurd H (by simp)
                                                        · rw [if_neg c80] at H
                                                          exact absurd H (by simp)
                                                      · replace c79 := Bool.eq_false_iff.mpr c79
                                                        subst c79
                                                        have H1 : (ferrulelaw11_GraphCloses.l3 k7 (wrap64 (1 + (Go.bits .and .i64 a0 31))) l1 t108 x7_2 (wrap64 (x11_5 + 1)) x12_3 (wrap64 (x13_5 + 1))) = some r := by rw [if_neg (show ¬ (false = true) by decide)] at H; exact H
                                                        clear H
                                                        have H := H1
                                                        clear H1
                                                        have H' := Aside0.mk H
                                                        clear H
                                                        obtain ⟨Ao89, co89, eo89⟩ := Kd.R_slice HO_5.out
                                                        subst eo89
                                                        have p137 : 0 ≤ (x12_3 : Int) := of_decide_eq_true (by first | (with_reducible assumption) | assumption)
                                                        have q137 : x12_3 < (t108.length : Int) := of_decide_eq_true (by first | (with_reducible assumption) | assumption)
                                                        obtain ⟨ad137, e137, hx137_0⟩ := Kd.at_bool (Kd.R_reads' HO_5.out).2.2 x12_3 p137 q137
                                                        (try rw [← Nbq78.out] at hx137_0)
                                                        cases e137
                                                        replace p137 := eq_true p137
                                                        replace q137 := eq_true q137
                                                        go_wp2
                                                        repeat (go_quiet (fail); try go_wp2)
                                                        go_roundg k7
                                                        case measure => have := HJ6.out; have := HK2.out; have := HK3.out; have := HJ56.out; have := HK5.out; have := HJ62.out; have := HK7.out; omega
                                                        case rel => exact ⟨(wrap64 (x11_5 + 1)), (wrap64 (x13_5 + 1)), (by first | rfl | (simp; done) | (simp [*]; done)), (by first | rfl | (simp; done) | (simp [*]; done)), H', ⟨by have := HJ6.out; have := HK2.out; have := HK3.out; have := HJ56.out; have := HK5.out; have := HJ62.out; have := HK7.out; omega⟩, ⟨by (with_reducible repeat (first | apply Kd.R_alloc | apply Kd.R_drewN | apply Kd.R_drew)); exact HO_5.out⟩, ⟨by repeat (first | (with_reducible first | exact HB.out | apply below_alloc | apply pw_below_drewN | apply below_drew1) | exact HB.out)⟩⟩
                                                    · rw [if_neg c77] at H
                                                      exact absurd H (by simp)
                                                  · rw [if_neg c76] at H
                                                    exact absurd H (by simp)
                                                · replace c75 := Bool.eq_false_iff.mpr c75
                                                  subst c75
                                                  have H1 : (if 0 ≤ x12_3 then (if x12_3 < (t108.length : Int) then (if rdOf false t108 x12_3 = true then (if x12_3 < (l1.length : Int) then (if 0 ≤ x13_5 then (if x13_5 < ((rd_L1 l1 x12_3).length : Int) then (if 0 ≤ (rd (rd_L1 l1 x12_3) x13_5) then (if (rd (rd_L1 l1 x12_3) x13_5) < (t108.length : Int) then (if (rdOf false t108 (rd (rd_L1 l1 x12_3) x13_5) = true) then (ferrulelaw11_GraphCloses.l3 k7 (wrap64 (1 + (Go.bits .and .i64 a0 31))) l1 t108 x7_2 x11_5 x12_3 (wrap64 (x13_5 + 1))) else (some false)) else (none)) else (none)) else (none)) else (none)) else (none)) else (ferrulelaw11_GraphCloses.l3 k7 (wrap64 (1 + (Go.bits .and .i64 a0 31))) l1 t108 x7_2 x11_5 x12_3 (wrap64 (x13_5 + 1)))) else (none)) else (none)) = some r := by rw [if_neg (show ¬ (false = true) by decide)] at H; exact H
                                                  clear H
                                                  have H := H1
                                                  clear H1
                                                  by_cases c90 : 0 ≤ x12_3
                                                  · rw [if_pos c90] at H
                                                    have c90b0 : decide (0 ≤ x12_3) = true := decide_eq_true c90
                                                    clear c90
                                                    by_cases c91 : x12_3 < (t108.length : Int)
                                                    · rw [if_pos c91] at H
                                                      have c91b0 : decide (x12_3 < (t108.length : Int)) = true := decide_eq_true c91
                                                      clear c91
                                                      obtain ⟨bq92, hbq92⟩ : ∃ b_ : Bool, b_ = (rdOf false t108 x12_3) := ⟨_, rfl⟩
                                                      replace H : (if bq92 = true then (if x12_3 < (l1.length : Int) then (if 0 ≤ x13_5 then (if x13_5 < ((rd_L1 l1 x12_3).length : Int) then (if 0 ≤ (rd (rd_L1 l1 x12_3) x13_5) then (if (rd (rd_L1 l1 x12_3) x13_5) < (t108.length : Int) then (if (rdOf false t108 (rd (rd_L1 l1 x12_3) x13_5) = true) then (ferrulelaw11_GraphCloses.l3 k7 (wrap64 (1 + (Go.bits .and .i64 a0 31))) l1 t108 x7_2 x11_5 x12_3 (wrap64 (x13_5 + 1))) else (some false)) else (none)) else (none)) else (none)) else (none)) else (none)) else (ferrulelaw11_GraphCloses.l3 k7 (wrap64 (1 + (Go.bits .and .i64 a0 31))) l1 t108 x7_2 x11_5 x12_3 (wrap64 (x13_5 + 1)))) = some r := by rw [← hbq92] at H; exact H
                                                      have Nbq92 := Aside0.mk hbq92
                                                      clear hbq92
                                                      by_cases c93 : bq92 = true
                                                      · subst c93
                                                        have H1 : (if x12_3 < (l1.length : Int) then (if 0 ≤ x13_5 then (if x13_5 < ((rd_L1 l1 x12_3).length : Int) then (if 0 ≤ (rd (rd_L1 l1 x12_3) x13_5) then (if (rd (rd_L1 l1 x12_3) x13_5) < (t108.length : Int) then (if (rdOf false t108 (rd (rd_L1 l1 x12_3) x13_5) = true) then (ferrulelaw11_GraphCloses.l3 k7 (wrap64 (1 + (Go.bits .and .i64 a0 31))) l1 t108 x7_2 x11_5 x12_3 (wrap64 (x13_5 + 1))) else (some false)) else (none)) else (none)) else (none)) else (none)) else (none)) = some r := by rw [if_pos rfl] at H; exact H
                                                        clear H
                                                        have H := H1
                                                        clear H1
                                                        by_cases c94 : x12_3 < (l1.length : Int)
                                                        · rw [if_pos c94] at H
                                                          have c94b0 : decide (x12_3 < (l1.length : Int)) = true := decide_eq_true c94
                                                          clear c94
                                                          by_cases c95 : 0 ≤ x13_5
                                                          · rw [if_pos c95] at H
                                                            have c95b0 : decide (0 ≤ x13_5) = true := decide_eq_true c95
                                                            clear c95
                                                            by_cases c96 : x13_5 < ((rd_L1 l1 x12_3).length : Int)
                                                            · rw [if_pos c96] at H
                                                              have c96b0 : decide (x13_5 < ((rd_L1 l1 x12_3).length : Int)) = true := decide_eq_true c96
                                                              clear c96
                                                              by_cases c97 : 0 ≤ (rd (rd_L1 l1 x12_3) x13_5)
                                                              · rw [if_pos c97] at H
                                                                have c97b0 : decide (0 ≤ (rd (rd_L1 l1 x12_3) x13_5)) = true := decide_eq_true c97
                                                                clear c97
                                                                by_cases c98 : (rd (rd_L1 l1 x12_3) x13_5) < (t108.length : Int)
                                                                · rw [if_pos c98] at H
                                                                  have c98b0 : decide ((rd (rd_L1 l1 x12_3) x13_5) < (t108.length : Int)) = true := decide_eq_true c98
                                                                  clear c98
                                                                  obtain ⟨bq99, hbq99⟩ : ∃ b_ : Bool, b_ = (rdOf false t108 (rd (rd_L1 l1 x12_3) x13_5)) := ⟨_, rfl⟩
                                                                  replace H : (if (bq99 = true) then (ferrulelaw11_GraphCloses.l3 k7 (wrap64 (1 + (Go.bits .and .i64 a0 31))) l1 t108 x7_2 x11_5 x12_3 (wrap64 (x13_5 + 1))) else (some false)) = some r := by rw [← hbq99] at H; exact H
                                                                  have Nbq99 := Aside0.mk hbq99
                                                                  clear hbq99
                                                                  by_cases c100 : (bq99 = true)
                                                                  · subst c100
                                                                    have H1 : (ferrulelaw11_GraphCloses.l3 k7 (wrap64 (1 + (Go.bits .and .i64 a0 31))) l1 t108 x7_2 x11_5 x12_3 (wrap64 (x13_5 + 1))) = some r := by rw [if_pos rfl] at H; exact H
                                                                    clear H
                                                                    have H := H1
                                                                    clear H1
                                                                    have H' := Aside0.mk H
                                                                    clear H
                                                                    obtain ⟨Ao101, co101, eo101⟩ := Kd.R_slice HO_5.out
                                                                    subst eo101
                                                                    have p141 : 0 ≤ (x12_3 : Int) := of_decide_eq_true (by first | (with_reducible assumption) | assumption)
                                                                    have q141 : x12_3 < (t108.length : Int) := of_decide_eq_true (by first | (with_reducible assumption) | assumption)
                                                                    obtain ⟨ad141, e141, hx141_0⟩ := Kd.at_bool (Kd.R_reads' HO_5.out).2.2 x12_3 p141 q141
                                                                    (try rw [← Nbq92.out] at hx141_0)
                                                                    (try rw [← Nbq99.out] at hx141_0)
                                                                    cases e141
                                                                    replace p141 := eq_true p141
                                                                    replace q141 := eq_true q141
                                                                    have p142 : 0 ≤ (x12_3 : Int) := of_decide_eq_true (by first | (with_reducible assumption) | assumption)
                                                                    have q142 : x12_3 < (l1.length : Int) := of_decide_eq_true (by first | (with_reducible assumption) | assumption)
                                                                    obtain ⟨ad142, A142_0, c142_0, e142, hx142_0, hl142_0, hi142_0⟩ := at_L1 HR1.out x12_3 p142 q142
                                                                    obtain rfl : ad128 = ad142 := (by injection e142)
                                                                    replace hx142_0 := (HB.out.cell (World.block_lt_of_cell? w _ hx142_0)).trans hx142_0
                                                                    have HR142_0 := Aside0.mk hi142_0
                                                                    have HC142_0 := Aside0.mk hl142_0
                                                                    clear hi142_0 hl142_0
                                                                    replace p142 := eq_true p142
                                                                    replace q142 := eq_true q142
                                                                    have p143 : 0 ≤ (x13_5 : Int) := of_decide_eq_true (by first | (with_reducible assumption) | assumption)
                                                                    have q143 : x13_5 < ((rd_L1 l1 x12_3).length : Int) := of_decide_eq_true (by first | (with_reducible assumption) | assumption)
                                                                    obtain ⟨ad143, e143, hx143_0⟩ := Kd.at_int HR142_0.out x13_5 p143 q143
                                                                    cases e143
                                                                    replace hx143_0 := (HB.out.cell (World.block_lt_of_cell? w _ hx143_0)).trans hx143_0
                                                                    replace p143 := eq_true p143
                                                                    replace q143 := eq_true q143
                                                                    have p144 : 0 ≤ ((rd (rd_L1 l1 x12_3) x13_5) : Int) := of_decide_eq_true (by first | (with_reducible assumption) | assumption)
                                                                    have q144 : (rd (rd_L1 l1 x12_3) x13_5) < (t108.length : Int) := of_decide_eq_true (by first | (with_reducible assumption) | assumption)
                                                                    obtain ⟨ad144, e144, hx144_0⟩ := Kd.at_bool (Kd.R_reads' HO_5.out).2.2 (rd (rd_L1 l1 x12_3) x13_5) p144 q144
                                                                    (try rw [← Nbq92.out] at hx144_0)
                                                                    (try rw [← Nbq99.out] at hx144_0)
                                                                    obtain rfl : ad141 = ad144 := (by injection e144)
                                                                    replace p144 := eq_true p144
                                                                    replace q144 := eq_true q144
                                                                    go_wp2
                                                                    repeat (go_quiet (fail); try go_wp2)
                                                                    go_roundg k7
                                                                    case measure => have := HJ6.out; have := HK2.out; have := HK3.out; have := HJ56.out; have := HK5.out; have := HJ62.out; have := HK7.out; omega
                                                                    case rel => exact ⟨(x11_5), (wrap64 (x13_5 + 1)), (by first | rfl | (simp; done) | (simp [*]; done)), (by first | rfl | (simp; done) | (simp [*]; done)), H', ⟨by have := HJ6.out; have := HK2.out; have := HK3.out; have := HJ56.out; have := HK5.out; have := HJ62.out; have := HK7.out; omega⟩, ⟨by (with_reducible repeat (first | apply Kd.R_alloc | apply Kd.R_drewN | apply Kd.R_drew)); exact HO_5.out⟩, ⟨by repeat (first | (with_reducible first | exact HB.out | apply below_alloc | apply pw_below_drewN | apply below_drew1) | exact HB.out)⟩⟩
                                                                  · replace c100 := Bool.eq_false_iff.mpr c100
                                                                    subst c100
                                                                    have H1 : (some false) = some r := by rw [if_neg (show ¬ (false = true) by decide)] at H; exact H
                                                                    clear H
                                                                    have H := H1
                                                                    clear H1
                                                                    obtain rfl := Option.some.inj H
                                                                    obtain ⟨Ao102, co102, eo102⟩ := Kd.R_slice HO_5.out
                                                                    subst eo102
                                                                    have p141 : 0 ≤ (x12_3 : Int) := of_decide_eq_true (by first | (with_reducible assumption) | assumption)
                                                                    have q141 : x12_3 < (t108.length : Int) := of_decide_eq_true (by first | (with_reducible assumption) | assumption)
                                                                    obtain ⟨ad141, e141, hx141_0⟩ := Kd.at_bool (Kd.R_reads' HO_5.out).2.2 x12_3 p141 q141
                                                                    (try rw [← Nbq92.out] at hx141_0)
                                                                    (try rw [← Nbq99.out] at hx141_0)
                                                                    cases e141
                                                                    replace p141 := eq_true p141
                                                                    replace q141 := eq_true q141
                                                                    have p142 : 0 ≤ (x12_3 : Int) := of_decide_eq_true (by first | (with_reducible assumption) | assumption)
                                                                    have q142 : x12_3 < (l1.length : Int) := of_decide_eq_true (by first | (with_reducible assumption) | assumption)
                                                                    obtain ⟨ad142, A142_0, c142_0, e142, hx142_0, hl142_0, hi142_0⟩ := at_L1 HR1.out x12_3 p142 q142
                                                                    obtain rfl : ad128 = ad142 := (by injection e142)
                                                                    replace hx142_0 := (HB.out.cell (World.block_lt_of_cell? w _ hx142_0)).trans hx142_0
                                                                    have HR142_0 := Aside0.mk hi142_0
                                                                    have HC142_0 := Aside0.mk hl142_0
                                                                    clear hi142_0 hl142_0
                                                                    replace p142 := eq_true p142
                                                                    replace q142 := eq_true q142
                                                                    have p143 : 0 ≤ (x13_5 : Int) := of_decide_eq_true (by first | (with_reducible assumption) | assumption)
                                                                    have q143 : x13_5 < ((rd_L1 l1 x12_3).length : Int) := of_decide_eq_true (by first | (with_reducible assumption) | assumption)
                                                                    obtain ⟨ad143, e143, hx143_0⟩ := Kd.at_int HR142_0.out x13_5 p143 q143
                                                                    cases e143
                                                                    replace hx143_0 := (HB.out.cell (World.block_lt_of_cell? w _ hx143_0)).trans hx143_0
                                                                    replace p143 := eq_true p143
                                                                    replace q143 := eq_true q143
                                                                    have p144 : 0 ≤ ((rd (rd_L1 l1 x12_3) x13_5) : Int) := of_decide_eq_true (by first | (with_reducible assumption) | assumption)
                                                                    have q144 : (rd (rd_L1 l1 x12_3) x13_5) < (t108.length : Int) := of_decide_eq_true (by first | (with_reducible assumption) | assumption)
                                                                    obtain ⟨ad144, e144, hx144_0⟩ := Kd.at_bool (Kd.R_reads' HO_5.out).2.2 (rd (rd_L1 l1 x12_3) x13_5) p144 q144
                                                                    (try rw [← Nbq92.out] at hx144_0)
                                                                    (try rw [← Nbq99.out] at hx144_0)
                                                                    obtain rfl : ad141 = ad144 := (by injection e144)
                                                                    replace p144 := eq_true p144
                                                                    replace q144 := eq_true q144
                                                                    go_wp2
                                                                    repeat (go_quiet (fail); try go_wp2)
                                                                    go_ret
                                                                    exact ⟨by first | rfl | (simp [errW_none, errW_some] <;> rfl) | (simp [*, errW_none, errW_some] <;> rfl), by repeat (first | (with_reducible first | exact HB.out | apply below_alloc | apply pw_below_drewN | apply below_drew1) | exact HB.out)⟩
                                                                · rw [if_neg c98] at H
                                                                  exact absurd H (by simp)
                                                              · rw [if_neg c97] at H
                                                                exact absurd H (by simp)
                                                            · rw [if_neg c96] at H
                                                              exact absurd H (by simp)
                                                          · rw [if_neg c95] at H
                                                            exact absurd H (by simp)
                                                        · rw [if_neg c94] at H
                                                          exact absurd H (by simp)
                                                      · replace c93 := Bool.eq_false_iff.mpr c93
                                                        subst c93
                                                        have H1 : (ferrulelaw11_GraphCloses.l3 k7 (wrap64 (1 + (Go.bits .and .i64 a0 31))) l1 t108 x7_2 x11_5 x12_3 (wrap64 (x13_5 + 1))) = some r := by rw [if_neg (show ¬ (false = true) by decide)] at H; exact H
                                                        clear H
                                                        have H := H1
                                                        clear H1
                                                        have H' := Aside0.mk H
                                                        clear H
                                                        obtain ⟨Ao103, co103, eo103⟩ := Kd.R_slice HO_5.out
                                                        subst eo103
                                                        have p141 : 0 ≤ (x12_3 : Int) := of_decide_eq_true (by first | (with_reducible assumption) | assumption)
                                                        have q141 : x12_3 < (t108.length : Int) := of_decide_eq_true (by first | (with_reducible assumption) | assumption)
                                                        obtain ⟨ad141, e141, hx141_0⟩ := Kd.at_bool (Kd.R_reads' HO_5.out).2.2 x12_3 p141 q141
                                                        (try rw [← Nbq92.out] at hx141_0)
                                                        cases e141
                                                        replace p141 := eq_true p141
                                                        replace q141 := eq_true q141
                                                        go_wp2
                                                        repeat (go_quiet (fail); try go_wp2)
                                                        go_roundg k7
                                                        case measure => have := HJ6.out; have := HK2.out; have := HK3.out; have := HJ56.out; have := HK5.out; have := HJ62.out; have := HK7.out; omega
                                                        case rel => exact ⟨(x11_5), (wrap64 (x13_5 + 1)), (by first | rfl | (simp; done) | (simp [*]; done)), (by first | rfl | (simp; done) | (simp [*]; done)), H', ⟨by have := HJ6.out; have := HK2.out; have := HK3.out; have := HJ56.out; have := HK5.out; have := HJ62.out; have := HK7.out; omega⟩, ⟨by (with_reducible repeat (first | apply Kd.R_alloc | apply Kd.R_drewN | apply Kd.R_drew)); exact HO_5.out⟩, ⟨by repeat (first | (with_reducible first | exact HB.out | apply below_alloc | apply pw_below_drewN | apply below_drew1) | exact HB.out)⟩⟩
                                                    · rw [if_neg c91] at H
                                                      exact absurd H (by simp)
                                                  · rw [if_neg c90] at H
                                                    exact absurd H (by simp)
                                  · rw [if_neg c62] at H
                                    have c62b0 : decide (x13_5 < ((rd_L1 l1 x12_3).length : Int)) = false := decide_eq_false c62
                                    clear c62
                                    have H' := Aside0.mk H
                                    clear H
                                    have p128 : 0 ≤ (x12_3 : Int) := of_decide_eq_true (by first | (with_reducible assumption) | assumption)
                                    have q128 : x12_3 < (l1.length : Int) := of_decide_eq_true (by first | (with_reducible assumption) | assumption)
                                    obtain ⟨ad128, A128_0, c128_0, e128, hx128_0, hl128_0, hi128_0⟩ := at_L1 HR1.out x12_3 p128 q128
                                    cases e128
                                    replace hx128_0 := (HB.out.cell (World.block_lt_of_cell? w _ hx128_0)).trans hx128_0
                                    have HR128_0 := Aside0.mk hi128_0
                                    have HC128_0 := Aside0.mk hl128_0
                                    clear hi128_0 hl128_0
                                    replace p128 := eq_true p128
                                    replace q128 := eq_true q128
                                    go_wp2
                                    repeat (go_quiet (fail); try go_wp2)
                                    go_roundg k5
                                    case measure => have := HJ6.out; have := HK2.out; have := HK3.out; have := HJ56.out; have := HK5.out; omega
                                    case rel => exact ⟨(x11_5), (wrap64 (x12_3 + 1)), (by first | rfl | (simp; done) | (simp [*]; done)), (by first | rfl | (simp; done) | (simp [*]; done)), H', ⟨by have := HJ6.out; have := HK2.out; have := HK3.out; have := HJ56.out; have := HK5.out; omega⟩, ⟨by (with_reducible repeat (first | apply Kd.R_alloc | apply Kd.R_drewN | apply Kd.R_drew)); exact HO_5.out⟩, ⟨by repeat (first | (with_reducible first | exact HB.out | apply below_alloc | apply pw_below_drewN | apply below_drew1) | exact HB.out)⟩⟩
                                · rw [if_neg c61] at H
                                  exact absurd H (by simp)
                              · rw [if_neg c60] at H
                                exact absurd H (by simp)
                        · replace c59 := Bool.eq_false_iff.mpr c59
                          subst c59
                          have H1 : (some (x11_3 == x7_2)) = some r := by rw [if_neg (show ¬ (false = true) by decide)] at H; exact H
                          clear H
                          have H := H1
                          clear H1
                          obtain rfl := Option.some.inj H
                          go_wp2
                          repeat (go_quiet (fail); try go_wp2)
                          go_ret
                          exact ⟨by first | rfl | (simp [errW_none, errW_some] <;> rfl) | (simp [*, errW_none, errW_some] <;> rfl), by repeat (first | (with_reducible first | exact HB.out | apply below_alloc | apply pw_below_drewN | apply below_drew1) | exact HB.out)⟩
  · replace c4 := Bool.eq_false_iff.mpr c4
    subst c4
    have H1 : (some true) = some r := by rw [if_neg (show ¬ (false = true) by decide)] at H; exact H
    clear H
    have H := H1
    clear H1
    obtain rfl := Option.some.inj H
    go_enter Try.func3, Try.ntmps3
    go_wp2_with (first | (go_at_call 10; (with_reducible refine (ferrulelaw11_few.calls k _ _ l1 false _ ?side1 ?side2 A3.out).mono ?_); (case side1 => repeat (first | exact HR1.out | (with_reducible refine Kd.C_alloc ?_ _) | (with_reducible refine Kd.C_drewN ?_ _) | (with_reducible refine Kd.C_drew ?_))); (case side2 => exact HC1.out); rintro e w' ⟨rfl, ⟨nd, rfl⟩⟩; (try first | exact ⟨rfl, _, World.drewN_drewN _ _ _⟩ | exact ⟨rfl, _, Eq.trans (World.drewN_drewN _ _ _) (congrArg (World.drewN _) (Nat.add_assoc _ _ _))⟩)))
    repeat (go_quiet (first | (go_at_call 10; (with_reducible refine (ferrulelaw11_few.calls k _ _ l1 false _ ?side1 ?side2 A3.out).mono ?_); (case side1 => repeat (first | exact HR1.out | (with_reducible refine Kd.C_alloc ?_ _) | (with_reducible refine Kd.C_drewN ?_ _) | (with_reducible refine Kd.C_drew ?_))); (case side2 => exact HC1.out); rintro e w' ⟨rfl, ⟨nd, rfl⟩⟩; (try first | exact ⟨rfl, _, World.drewN_drewN _ _ _⟩ | exact ⟨rfl, _, Eq.trans (World.drewN_drewN _ _ _) (congrArg (World.drewN _) (Nat.add_assoc _ _ _))⟩))); try go_wp2_with (first | (go_at_call 10; (with_reducible refine (ferrulelaw11_few.calls k _ _ l1 false _ ?side1 ?side2 A3.out).mono ?_); (case side1 => repeat (first | exact HR1.out | (with_reducible refine Kd.C_alloc ?_ _) | (with_reducible refine Kd.C_drewN ?_ _) | (with_reducible refine Kd.C_drew ?_))); (case side2 => exact HC1.out); rintro e w' ⟨rfl, ⟨nd, rfl⟩⟩; (try first | exact ⟨rfl, _, World.drewN_drewN _ _ _⟩ | exact ⟨rfl, _, Eq.trans (World.drewN_drewN _ _ _) (congrArg (World.drewN _) (Nat.add_assoc _ _ _))⟩))))
    go_ret
    exact ⟨by first | rfl | (simp [errW_none, errW_some] <;> rfl) | (simp [*, errW_none, errW_some] <;> rfl), by repeat (first | (with_reducible first | exact HB.out | apply below_alloc | apply pw_below_drewN | apply below_drew1) | exact HB.out)⟩

end Go.Proofs.Ytafjbebbmfihaaa.P
