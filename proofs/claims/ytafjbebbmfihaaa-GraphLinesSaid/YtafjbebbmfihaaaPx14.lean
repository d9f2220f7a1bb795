-- Laid by a program of this session over the kit's print. Not trusted: Lean checks it.
import Derived.Test.YtafjbebbmfihaaaPx0
import Derived.Test.YtafjbebbmfihaaaHDoms
import Derived.Test.YtafjbebbmfihaaaHOrder
namespace Go.Proofs.Ytafjbebbmfihaaa.P
open Go.RowKit Go.Proofs.YtafjbebbmfihaaaW.PrintWords Go.Proofs.YtafjbebbmfihaaaW.PrintLast Go.Proofs.YtafjbebbmfihaaaW.PrintMore
attribute [local go_sem] max2_int min2_int max_two min_two max_three min_three max_four min_four   -- for this text's walks alone
set_option linter.unusedVariables false
set_option linter.unusedSimpArgs false

/-! ### ferrulelaw11_GraphLines: function 7 -/
mutual
def ferrulelaw11_GraphLines.j0 : Nat → Int → Int → Int → Option (Bool)
  | 0, _, _, _ => none
  | k + 1, x0, x1, x2 => ferrulelaw11_GraphLines.l0 k x0 x1 x2 ([] : List (List Int)) 0
def ferrulelaw11_GraphLines.l0 : Nat → Int → Int → Int → List (List Int) → Int → Option (Bool)
  | 0, _, _, _, _, _ => none
  | k + 1, x0, x1, x2, x7, x8 => if (wrap64 (x8 + 1)) < x0 then ((some (([wrap64 (x8 + 1)] : List Int) : List Int)).bind fun y218 => (if x8 = x1 then (if x2 > (wrap64 (x1 + 1)) then (if y218.length < 17592186044416 then (if x7.length < 5864062014805 then (ferrulelaw11_GraphLines.l0 k x0 x1 x2 (x7 ++ [(y218 ++ [x2])]) (wrap64 (x8 + 1))) else (none)) else (none)) else (if x7.length < 5864062014805 then (ferrulelaw11_GraphLines.l0 k x0 x1 x2 (x7 ++ [y218]) (wrap64 (x8 + 1))) else (none))) else (if x7.length < 5864062014805 then (ferrulelaw11_GraphLines.l0 k x0 x1 x2 (x7 ++ [y218]) (wrap64 (x8 + 1))) else (none)))) else ((graph_Doms.f k x0 x7).bind fun t233 => ((graph_Order.f k x0 x7).bind fun t236 => (if (t233.length : Int) = x0 then (ferrulelaw11_GraphLines.j2 k x0 x1 x2 t233 t236 ((t236.length : Int) != x0)) else (ferrulelaw11_GraphLines.j2 k x0 x1 x2 t233 t236 true))))
def ferrulelaw11_GraphLines.j2 : Nat → Int → Int → Int → List Int → List Int → Bool → Option (Bool)
  | 0, _, _, _, _, _, _ => none
  | k + 1, x0, x1, x2, x10, x11, x77 => if x77 = true then (some false) else (ferrulelaw11_GraphLines.l1 k x0 x1 x2 x10 x11 0)
def ferrulelaw11_GraphLines.l1 : Nat → Int → Int → Int → List Int → List Int → Int → Option (Bool)
  | 0, _, _, _, _, _, _ => none
  | k + 1, x0, x1, x2, x10, x11, x12 => if x12 < x0 then (if x12 = x2 then (ferrulelaw11_GraphLines.j4 k x0 x1 x2 x10 x11 x12 (wrap64 (x12 - 1)) (decide (x2 > (wrap64 (x1 + 1))))) else (ferrulelaw11_GraphLines.j4 k x0 x1 x2 x10 x11 x12 (wrap64 (x12 - 1)) false)) else (some true)
def ferrulelaw11_GraphLines.j4 : Nat → Int → Int → Int → List Int → List Int → Int → Int → Bool → Option (Bool)
  | 0, _, _, _, _, _, _, _, _ => none
  | k + 1, x0, x1, x2, x10, x11, x12, x13, x93 => if x93 = true then (if 0 ≤ x12 then (if x12 < (x10.length : Int) then (if (rd x10 x12) = x1 then (if x12 < (x11.length : Int) then (if (rd x11 x12) = x12 then (ferrulelaw11_GraphLines.l1 k x0 x1 x2 x10 x11 (wrap64 (x12 + 1))) else (some false)) else (none)) else (some false)) else (none)) else (none)) else (if 0 ≤ x12 then (if x12 < (x10.length : Int) then (if (rd x10 x12) = x13 then (if x12 < (x11.length : Int) then (if (rd x11 x12) = x12 then (ferrulelaw11_GraphLines.l1 k x0 x1 x2 x10 x11 (wrap64 (x12 + 1))) else (some false)) else (none)) else (some false)) else (none)) else (none))
end
def ferrulelaw11_GraphLines.f (k : Nat) (a0 : Int) (a1 : Int) (a2 : Int) : Option (Bool) := if (wrap64 (3 + (Go.bits .and .i64 a0 15))) = 0 then (none) else (if (Int.tmod (wrap64 ((Int.tmod a1 (wrap64 (3 + (Go.bits .and .i64 a0 15)))) + (wrap64 (3 + (Go.bits .and .i64 a0 15))))) (wrap64 (3 + (Go.bits .and .i64 a0 15)))) > (Int.tmod (wrap64 ((Int.tmod a2 (wrap64 (3 + (Go.bits .and .i64 a0 15)))) + (wrap64 (3 + (Go.bits .and .i64 a0 15))))) (wrap64 (3 + (Go.bits .and .i64 a0 15)))) then (ferrulelaw11_GraphLines.j0 k (wrap64 (3 + (Go.bits .and .i64 a0 15))) (Int.tmod (wrap64 ((Int.tmod a2 (wrap64 (3 + (Go.bits .and .i64 a0 15)))) + (wrap64 (3 + (Go.bits .and .i64 a0 15))))) (wrap64 (3 + (Go.bits .and .i64 a0 15)))) (Int.tmod (wrap64 ((Int.tmod a1 (wrap64 (3 + (Go.bits .and .i64 a0 15)))) + (wrap64 (3 + (Go.bits .and .i64 a0 15))))) (wrap64 (3 + (Go.bits .and .i64 a0 15))))) else (ferrulelaw11_GraphLines.j0 k (wrap64 (3 + (Go.bits .and .i64 a0 15))) (Int.tmod (wrap64 ((Int.tmod a1 (wrap64 (3 + (Go.bits .and .i64 a0 15)))) + (wrap64 (3 + (Go.bits .and .i64 a0 15))))) (wrap64 (3 + (Go.bits .and .i64 a0 15)))) (Int.tmod (wrap64 ((Int.tmod a2 (wrap64 (3 + (Go.bits .and .i64 a0 15)))) + (wrap64 (3 + (Go.bits .and .i64 a0 15))))) (wrap64 (3 + (Go.bits .and .i64 a0 15))))))
theorem ferrulelaw11_GraphLines.mono_l : ∀ k, (∀ y0 y1 y2, LeO (ferrulelaw11_GraphLines.j0 k y0 y1 y2) (ferrulelaw11_GraphLines.j0 (k + 1) y0 y1 y2)) ∧ (∀ y0 y1 y2 y3 y4, LeO (ferrulelaw11_GraphLines.l0 k y0 y1 y2 y3 y4) (ferrulelaw11_GraphLines.l0 (k + 1) y0 y1 y2 y3 y4)) ∧ (∀ y0 y1 y2 y3 y4 y5, LeO (ferrulelaw11_GraphLines.j2 k y0 y1 y2 y3 y4 y5) (ferrulelaw11_GraphLines.j2 (k + 1) y0 y1 y2 y3 y4 y5)) ∧ (∀ y0 y1 y2 y3 y4 y5, LeO (ferrulelaw11_GraphLines.l1 k y0 y1 y2 y3 y4 y5) (ferrulelaw11_GraphLines.l1 (k + 1) y0 y1 y2 y3 y4 y5)) ∧ (∀ y0 y1 y2 y3 y4 y5 y6 y7, LeO (ferrulelaw11_GraphLines.j4 k y0 y1 y2 y3 y4 y5 y6 y7) (ferrulelaw11_GraphLines.j4 (k + 1) y0 y1 y2 y3 y4 y5 y6 y7))
  | 0 => ⟨fun _ _ _ r h => by simp [ferrulelaw11_GraphLines.j0] at h, fun _ _ _ _ _ r h => by simp [ferrulelaw11_GraphLines.l0] at h, fun _ _ _ _ _ _ r h => by simp [ferrulelaw11_GraphLines.j2] at h, fun _ _ _ _ _ _ r h => by simp [ferrulelaw11_GraphLines.l1] at h, fun _ _ _ _ _ _ _ _ r h => by simp [ferrulelaw11_GraphLines.j4] at h⟩
  | k + 1 => by
    obtain ⟨ih0, ih1, ih2, ih3, ih4⟩ := ferrulelaw11_GraphLines.mono_l k
    refine ⟨?_, ?_, ?_, ?_, ?_⟩
    · intro y0 y1 y2
      unfold ferrulelaw11_GraphLines.j0
      repeat' first
      | (with_reducible exact ih0 _ _ _)
      | (with_reducible exact ih1 _ _ _ _ _)
      | (with_reducible exact ih2 _ _ _ _ _ _)
      | (with_reducible exact ih3 _ _ _ _ _ _)
      | (with_reducible exact ih4 _ _ _ _ _ _ _ _)
      | (with_reducible exact graph_Doms.mono _ _ _)
      | (with_reducible exact graph_Order.mono _ _ _)
      | (with_reducible exact LeO.refl _)
      | (with_reducible exact LeO.none _)
      | (with_reducible refine LeO.ite ?_ ?_)
      | (with_reducible refine LeO.bind ?_ (fun _ => ?_))
      | exact ih0 _ _ _
      | exact ih1 _ _ _ _ _
      | exact ih2 _ _ _ _ _ _
      | exact ih3 _ _ _ _ _ _
      | exact ih4 _ _ _ _ _ _ _ _
      | exact graph_Doms.mono _ _ _
      | exact graph_Order.mono _ _ _
      | exact LeO.none _
      | refine LeO.ite ?_ ?_
      | refine LeO.bind ?_ (fun _ => ?_)
    · intro y0 y1 y2 y3 y4
      unfold ferrulelaw11_GraphLines.l0
      repeat' first
      | (with_reducible exact ih0 _ _ _)
      | (with_reducible exact ih1 _ _ _ _ _)
      | (with_reducible exact ih2 _ _ _ _ _ _)
      | (with_reducible exact ih3 _ _ _ _ _ _)
      | (with_reducible exact ih4 _ _ _ _ _ _ _ _)
      | (with_reducible exact graph_Doms.mono _ _ _)
      | (with_reducible exact graph_Order.mono _ _ _)
      | (with_reducible exact LeO.refl _)
      | (with_reducible exact LeO.none _)
      | (with_reducible refine LeO.ite ?_ ?_)
      | (with_reducible refine LeO.bind ?_ (fun _ => ?_))
      | exact ih0 _ _ _
      | exact ih1 _ _ _ _ _
      | exact ih2 _ _ _ _ _ _
      | exact ih3 _ _ _ _ _ _
      | exact ih4 _ _ _ _ _ _ _ _
      | exact graph_Doms.mono _ _ _
      | exact graph_Order.mono _ _ _
      | exact LeO.none _
      | refine LeO.ite ?_ ?_
      | refine LeO.bind ?_ (fun _ => ?_)
    · intro y0 y1 y2 y3 y4 y5
      unfold ferrulelaw11_GraphLines.j2
      repeat' first
      | (with_reducible exact ih0 _ _ _)
      | (with_reducible exact ih1 _ _ _ _ _)
      | (with_reducible exact ih2 _ _ _ _ _ _)
      | (with_reducible exact ih3 _ _ _ _ _ _)
      | (with_reducible exact ih4 _ _ _ _ _ _ _ _)
      | (with_reducible exact graph_Doms.mono _ _ _)
      | (with_reducible exact graph_Order.mono _ _ _)
      | (with_reducible exact LeO.refl _)
      | (with_reducible exact LeO.none _)
      | (with_reducible refine LeO.ite ?_ ?_)
      | (with_reducible refine LeO.bind ?_ (fun _ => ?_))
      | exact ih0 _ _ _
      | exact ih1 _ _ _ _ _
      | exact ih2 _ _ _ _ _ _
      | exact ih3 _ _ _ _ _ _
      | exact ih4 _ _ _ _ _ _ _ _
      | exact graph_Doms.mono _ _ _
      | exact graph_Order.mono _ _ _
      | exact LeO.none _
      | refine LeO.ite ?_ ?_
      | refine LeO.bind ?_ (fun _ => ?_)
    · intro y0 y1 y2 y3 y4 y5
      unfold ferrulelaw11_GraphLines.l1
      repeat' first
      | (with_reducible exact ih0 _ _ _)
      | (with_reducible exact ih1 _ _ _ _ _)
      | (with_reducible exact ih2 _ _ _ _ _ _)
      | (with_reducible exact ih3 _ _ _ _ _ _)
      | (with_reducible exact ih4 _ _ _ _ _ _ _ _)
      | (with_reducible exact graph_Doms.mono _ _ _)
      | (with_reducible exact graph_Order.mono _ _ _)
      | (with_reducible exact LeO.refl _)
      | (with_reducible exact LeO.none _)
      | (with_reducible refine LeO.ite ?_ ?_)
      | (with_reducible refine LeO.bind ?_ (fun _ => ?_))
      | exact ih0 _ _ _
      | exact ih1 _ _ _ _ _
      | exact ih2 _ _ _ _ _ _
      | exact ih3 _ _ _ _ _ _
      | exact ih4 _ _ _ _ _ _ _ _
      | exact graph_Doms.mono _ _ _
      | exact graph_Order.mono _ _ _
      | exact LeO.none _
      | refine LeO.ite ?_ ?_
      | refine LeO.bind ?_ (fun _ => ?_)
    · intro y0 y1 y2 y3 y4 y5 y6 y7
      unfold ferrulelaw11_GraphLines.j4
      repeat' first
      | (with_reducible exact ih0 _ _ _)
      | (with_reducible exact ih1 _ _ _ _ _)
      | (with_reducible exact ih2 _ _ _ _ _ _)
      | (with_reducible exact ih3 _ _ _ _ _ _)
      | (with_reducible exact ih4 _ _ _ _ _ _ _ _)
      | (with_reducible exact graph_Doms.mono _ _ _)
      | (with_reducible exact graph_Order.mono _ _ _)
      | (with_reducible exact LeO.refl _)
      | (with_reducible exact LeO.none _)
      | (with_reducible refine LeO.ite ?_ ?_)
      | (with_reducible refine LeO.bind ?_ (fun _ => ?_))
      | exact ih0 _ _ _
      | exact ih1 _ _ _ _ _
      | exact ih2 _ _ _ _ _ _
      | exact ih3 _ _ _ _ _ _
      | exact ih4 _ _ _ _ _ _ _ _
      | exact graph_Doms.mono _ _ _
      | exact graph_Order.mono _ _ _
      | exact LeO.none _
      | refine LeO.ite ?_ ?_
      | refine LeO.bind ?_ (fun _ => ?_)
theorem ferrulelaw11_GraphLines.mono : ∀ a0 a1 a2 k, LeO (ferrulelaw11_GraphLines.f k a0 a1 a2) (ferrulelaw11_GraphLines.f (k + 1) a0 a1 a2) := by
  intro a0 a1 a2 k
  obtain ⟨ih0, ih1, ih2, ih3, ih4⟩ := ferrulelaw11_GraphLines.mono_l k
  unfold ferrulelaw11_GraphLines.f
  repeat' first
      | (with_reducible exact ih0 _ _ _)
      | (with_reducible exact ih1 _ _ _ _ _)
      | (with_reducible exact ih2 _ _ _ _ _ _)
      | (with_reducible exact ih3 _ _ _ _ _ _)
      | (with_reducible exact ih4 _ _ _ _ _ _ _ _)
      | (with_reducible exact graph_Doms.mono _ _ _)
      | (with_reducible exact graph_Order.mono _ _ _)
      | (with_reducible exact LeO.refl _)
      | (with_reducible exact LeO.none _)
      | (with_reducible refine LeO.ite ?_ ?_)
      | (with_reducible refine LeO.bind ?_ (fun _ => ?_))
      | exact ih0 _ _ _
      | exact ih1 _ _ _ _ _
      | exact ih2 _ _ _ _ _ _
      | exact ih3 _ _ _ _ _ _
      | exact ih4 _ _ _ _ _ _ _ _
      | exact graph_Doms.mono _ _ _
      | exact graph_Order.mono _ _ _
      | exact LeO.none _
      | refine LeO.ite ?_ ?_
      | refine LeO.bind ?_ (fun _ => ?_)
set_option maxHeartbeats 8000000 in
set_option maxRecDepth 100000 in
theorem ferrulelaw11_GraphLines.calls (k : Nat) (a0 : Int) (a1 : Int) (a2 : Int) (r : Bool) (w : World) (h : ferrulelaw11_GraphLines.f k a0 a1 a2 = some r) :
    Calls Try.prog 7 #[.int .i64 a0, .int .i64 a1, .int .i64 a2] w fun e w' => e = .returned (.bool r) ∧ Below w.heap.size w w' := by
  have HB := Aside0.mk (Below.refl w.heap.size w)
  have H : (if (wrap64 (3 + (Go.bits .and .i64 a0 15))) = 0 then (none) else (if (Int.tmod (wrap64 ((Int.tmod a1 (wrap64 (3 + (Go.bits .and .i64 a0 15)))) + (wrap64 (3 + (Go.bits .and .i64 a0 15))))) (wrap64 (3 + (Go.bits .and .i64 a0 15)))) > (Int.tmod (wrap64 ((Int.tmod a2 (wrap64 (3 + (Go.bits .and .i64 a0 15)))) + (wrap64 (3 + (Go.bits .and .i64 a0 15))))) (wrap64 (3 + (Go.bits .and .i64 a0 15)))) then (ferrulelaw11_GraphLines.j0 k (wrap64 (3 + (Go.bits .and .i64 a0 15))) (Int.tmod (wrap64 ((Int.tmod a2 (wrap64 (3 + (Go.bits .and .i64 a0 15)))) + (wrap64 (3 + (Go.bits .and .i64 a0 15))))) (wrap64 (3 + (Go.bits .and .i64 a0 15)))) (Int.tmod (wrap64 ((Int.tmod a1 (wrap64 (3 + (Go.bits .and .i64 a0 15)))) + (wrap64 (3 + (Go.bits .and .i64 a0 15))))) (wrap64 (3 + (Go.bits .and .i64 a0 15))))) else (ferrulelaw11_GraphLines.j0 k (wrap64 (3 + (Go.bits .and .i64 a0 15))) (Int.tmod (wrap64 ((Int.tmod a1 (wrap64 (3 + (Go.bits .and .i64 a0 15)))) + (wrap64 (3 + (Go.bits .and .i64 a0 15))))) (wrap64 (3 + (Go.bits .and .i64 a0 15)))) (Int.tmod (wrap64 ((Int.tmod a2 (wrap64 (3 + (Go.bits .and .i64 a0 15)))) + (wrap64 (3 + (Go.bits .and .i64 a0 15))))) (wrap64 (3 + (Go.bits .and .i64 a0 15))))))) = some r := h
  clear h
  by_cases c4 : (wrap64 (3 + (Go.bits .and .i64 a0 15))) = 0
  · rw [if_pos c4] at H
    exact absurd H (by simp)
  · rw [if_neg c4] at H
    have c4b0 : ((wrap64 (3 + (Go.bits .and .i64 a0 15))) == 0) = false := beq_eq_false_iff_ne.mpr c4
    have c4b1 : ((wrap64 (3 + (Go.bits .and .i64 a0 15))) != 0) = true := bne_iff_ne.mpr c4
    have HC5 := Aside0.mk H
    clear H
    go_enter Try.func7, Try.ntmps7
    go_upto_if 33 with (fail)
    go_cut [1, 2] (fun v1 v2 wc => ∃ (kq : Nat) (x1_4 : Int) (x2_4 : Int), v1 = .int .i64 x1_4 ∧ v2 = .int .i64 x2_4 ∧ Aside0 (ferrulelaw11_GraphLines.j0 kq (wrap64 (3 + (Go.bits .and .i64 a0 15))) x1_4 x2_4 = some r) ∧ Aside0 (kq ≤ k) ∧ Aside0 (Below w.heap.size w wc))
    case first =>
      have H := HC5.out
      clear HC5
      by_cases c6 : (Int.tmod (wrap64 ((Int.tmod a1 (wrap64 (3 + (Go.bits .and .i64 a0 15)))) + (wrap64 (3 + (Go.bits .and .i64 a0 15))))) (wrap64 (3 + (Go.bits .and .i64 a0 15)))) > (Int.tmod (wrap64 ((Int.tmod a2 (wrap64 (3 + (Go.bits .and .i64 a0 15)))) + (wrap64 (3 + (Go.bits .and .i64 a0 15))))) (wrap64 (3 + (Go.bits .and .i64 a0 15))))
      · rw [if_pos c6] at H
        have c6b0 : decide ((Int.tmod (wrap64 ((Int.tmod a2 (wrap64 (3 + (Go.bits .and .i64 a0 15)))) + (wrap64 (3 + (Go.bits .and .i64 a0 15))))) (wrap64 (3 + (Go.bits .and .i64 a0 15)))) < (Int.tmod (wrap64 ((Int.tmod a1 (wrap64 (3 + (Go.bits .and .i64 a0 15)))) + (wrap64 (3 + (Go.bits .and .i64 a0 15))))) (wrap64 (3 + (Go.bits .and .i64 a0 15))))) = true := decide_eq_true c6
        clear c6
        (first | rw [c6b0] | (simp only [i64_w, i32_w]; rw [c6b0]) | skip)
        have H' := Aside0.mk H
        clear H
        go_wp2
        go_meet
        case rel => exact ⟨_, (Int.tmod (wrap64 ((Int.tmod a2 (wrap64 (3 + (Go.bits .and .i64 a0 15)))) + (wrap64 (3 + (Go.bits .and .i64 a0 15))))) (wrap64 (3 + (Go.bits .and .i64 a0 15)))), (Int.tmod (wrap64 ((Int.tmod a1 (wrap64 (3 + (Go.bits .and .i64 a0 15)))) + (wrap64 (3 + (Go.bits .and .i64 a0 15))))) (wrap64 (3 + (Go.bits .and .i64 a0 15)))), (by first | rfl | (simp; done) | (simp [*]; done)), (by first | rfl | (simp; done) | (simp [*]; done)), H', ⟨by first | omega | exact Nat.le_refl _⟩, ⟨by repeat (first | (with_reducible first | exact HB.out | apply below_alloc | apply pw_below_drewN | apply below_drew1) | exact HB.out)⟩⟩
      · rw [if_neg c6] at H
        have c6b0 : decide ((Int.tmod (wrap64 ((Int.tmod a2 (wrap64 (3 + (Go.bits .and .i64 a0 15)))) + (wrap64 (3 + (Go.bits .and .i64 a0 15))))) (wrap64 (3 + (Go.bits .and .i64 a0 15)))) < (Int.tmod (wrap64 ((Int.tmod a1 (wrap64 (3 + (Go.bits .and .i64 a0 15)))) + (wrap64 (3 + (Go.bits .and .i64 a0 15))))) (wrap64 (3 + (Go.bits .and .i64 a0 15))))) = false := decide_eq_false c6
        clear c6
        (first | rw [c6b0] | (simp only [i64_w, i32_w]; rw [c6b0]) | skip)
        have H' := Aside0.mk H
        clear H
        go_wp2
        go_meet
        case rel => exact ⟨_, (Int.tmod (wrap64 ((Int.tmod a1 (wrap64 (3 + (Go.bits .and .i64 a0 15)))) + (wrap64 (3 + (Go.bits .and .i64 a0 15))))) (wrap64 (3 + (Go.bits .and .i64 a0 15)))), (Int.tmod (wrap64 ((Int.tmod a2 (wrap64 (3 + (Go.bits .and .i64 a0 15)))) + (wrap64 (3 + (Go.bits .and .i64 a0 15))))) (wrap64 (3 + (Go.bits .and .i64 a0 15)))), (by first | rfl | (simp; done) | (simp [*]; done)), (by first | rfl | (simp; done) | (simp [*]; done)), H', ⟨by first | omega | exact Nat.le_refl _⟩, ⟨by repeat (first | (with_reducible first | exact HB.out | apply below_alloc | apply pw_below_drewN | apply below_drew1) | exact HB.out)⟩⟩
    case rest =>
      clear HC5
      try clear p2
      try clear c4
      try clear c4b0
      try clear c4b1
      try clear c6
      try clear c6b0
      try clear p6
      obtain ⟨kq, x1_4, x2_4, rfl, rfl, HA, HJ4, HB⟩ := hcut
      cases kq with
      | zero => exact absurd HA.out (by simp [ferrulelaw11_GraphLines.j0])
      | succ kj4 =>
        have H := HA.out
        clear HA
        simp only [ferrulelaw11_GraphLines.j0] at H
        have H' := Aside0.mk H
        clear H
        go_wp2
        go_loopg [7, 8] kj4 (fun kq v7 v8 w' => ∃ (x7_2 : List (List Int)) (x8_2 : Int), v8 = .int .i64 x8_2 ∧ Aside0 (ferrulelaw11_GraphLines.l0 kq (wrap64 (3 + (Go.bits .and .i64 a0 15))) x1_4 x2_4 x7_2 x8_2 = some r) ∧ Aside0 (kq ≤ kj4) ∧ Aside0 (Kd.S (Kd.slice 3 (Kd.int .i64)) 27 w' w.heap.size (fun _ => True) v7 x7_2) ∧ Aside0 (Below w.heap.size w w'))
        case atStart => exact ⟨(([] : List (List Int))), (0), (by first | rfl | (simp; done) | (simp [*]; done)), H', ⟨Nat.le_refl _⟩, ⟨by first | exact Kd.S_nil _ _ _ _ _ | exact Kd.N_nil _ _ _ _ _ | exact Kd.V_nil _ _ _ _ _ | exact Kd.Q_nil _ _ _ _ _ | exact Kd.R_nil _ _ _ _ _⟩, ⟨by repeat (first | (with_reducible first | exact HB.out | apply below_alloc | apply pw_below_drewN | apply below_drew1) | exact HB.out)⟩⟩
        case round =>
          clear H'
          try clear p2
          try clear c4
          try clear c4b0
          try clear c4b1
          try clear c6
          try clear c6b0
          try clear p6
          try clear p2
          try clear p6
          obtain ⟨x7_2, x8_2, rfl, HA, HK2, HO_7, HB⟩ := hrel
          cases gk with
          | zero => exact absurd HA.out (by simp [ferrulelaw11_GraphLines.l0])
          | succ k2 =>
            have H := HA.out
            clear HA
            simp only [ferrulelaw11_GraphLines.l0] at H
            by_cases c7 : (wrap64 (x8_2 + 1)) < (wrap64 (3 + (Go.bits .and .i64 a0 15)))
            · rw [if_pos c7] at H
              have c7b0 : decide ((wrap64 (x8_2 + 1)) < (wrap64 (3 + (Go.bits .and .i64 a0 15)))) = true := decide_eq_true c7
              clear c7
              obtain ⟨y218, hy218⟩ : ∃ y_ : List Int, y_ = (([wrap64 (x8_2 + 1)] : List Int)) := ⟨_, rfl⟩
              replace H : (if x8_2 = x1_4 then (if x2_4 > (wrap64 (x1_4 + 1)) then (if y218.length < 17592186044416 then (if x7_2.length < 5864062014805 then (ferrulelaw11_GraphLines.l0 k2 (wrap64 (3 + (Go.bits .and .i64 a0 15))) x1_4 x2_4 (x7_2 ++ [(y218 ++ [x2_4])]) (wrap64 (x8_2 + 1))) else (none)) else (none)) else (if x7_2.length < 5864062014805 then (ferrulelaw11_GraphLines.l0 k2 (wrap64 (3 + (Go.bits .and .i64 a0 15))) x1_4 x2_4 (x7_2 ++ [y218]) (wrap64 (x8_2 + 1))) else (none))) else (if x7_2.length < 5864062014805 then (ferrulelaw11_GraphLines.l0 k2 (wrap64 (3 + (Go.bits .and .i64 a0 15))) x1_4 x2_4 (x7_2 ++ [y218]) (wrap64 (x8_2 + 1))) else (none))) = some r := by first | (rw [hy218]; with_reducible exact H) | (have H2_ := (Option.bind_some _ _).symm.trans H; rw [hy218]; with_reducible exact H2_) | (have H2_ := (Option.bind_some _ _).symm.trans H; with_reducible exact H2_) | with_reducible exact H | (rw [hy218]; exact H) | exact H
              have Ny218 := Aside0.mk hy218
              clear hy218
              by_cases c8 : x8_2 = x1_4
              · rw [if_pos c8] at H
                have c8b0 : (x8_2 == x1_4) = true := beq_iff_eq.mpr c8
                have c8b1 : (x8_2 != x1_4) = false := bne_eq_false_iff_eq.mpr c8
                clear c8
                by_cases c9 : x2_4 > (wrap64 (x1_4 + 1))
                · rw [if_pos c9] at H
                  have c9b0 : decide ((wrap64 (x1_4 + 1)) < x2_4) = true := decide_eq_true c9
                  clear c9
                  by_cases c10 : y218.length < 17592186044416
                  · rw [if_pos c10] at H
                    have LMc10 := Aside0.mk c10
                    clear c10
                    obtain ⟨y221, hy221⟩ : ∃ y_ : List Int, y_ = (y218 ++ [x2_4]) := ⟨_, rfl⟩
                    replace H : (if x7_2.length < 5864062014805 then (ferrulelaw11_GraphLines.l0 k2 (wrap64 (3 + (Go.bits .and .i64 a0 15))) x1_4 x2_4 (x7_2 ++ [y221]) (wrap64 (x8_2 + 1))) else (none)) = some r := by first | (rw [hy221]; with_reducible exact H) | (have H2_ := (Option.bind_some _ _).symm.trans H; rw [hy221]; with_reducible exact H2_) | (have H2_ := (Option.bind_some _ _).symm.trans H; with_reducible exact H2_) | with_reducible exact H | (rw [hy221]; exact H) | exact H
                    have Ny221 := Aside0.mk hy221
                    clear hy221
                    by_cases c11 : x7_2.length < 5864062014805
                    · rw [if_pos c11] at H
                      have LMc11 := Aside0.mk c11
                      clear c11
                      obtain ⟨y224, hy224⟩ : ∃ y_ : List (List Int), y_ = (x7_2 ++ [y221]) := ⟨_, rfl⟩
                      replace H : (ferrulelaw11_GraphLines.l0 k2 (wrap64 (3 + (Go.bits .and .i64 a0 15))) x1_4 x2_4 y224 (wrap64 (x8_2 + 1))) = some r := by first | (rw [hy224]; with_reducible exact H) | (have H2_ := (Option.bind_some _ _).symm.trans H; rw [hy224]; with_reducible exact H2_) | (have H2_ := (Option.bind_some _ _).symm.trans H; with_reducible exact H2_) | with_reducible exact H | (rw [hy224]; exact H) | exact H
                      have Ny224 := Aside0.mk hy224
                      clear hy224
                      have H' := Aside0.mk H
                      clear H
                      go_wp2_with (first | ((with_reducible refine gate_dst (N := 44) rfl ?_); (try (refine gate_guard (by rfl) ?_; dsimp only)); refine Kd.R_lit (Kd.int .i64) _ 3 ?hg (N := 44) ?hd (xs := ([wrap64 (x8_2 + 1)] : List Int)) (inner := [.int .i64 (wrap64 (x8_2 + 1))]) (ok := fun _ => True) (okp := fun _ => True) ?hr ?hp (fun _ hk => hk) trivial (Below.refl _ _) (Nat.le_refl _) (by simp) ?_; (case hd => rfl); (case hg => rfl); (case hr => first | (go_simp; done) | (go_simp; rfl)); (case hp => exact (Reps.one (show Kd.M (Kd.int .i64) _ _ _ (wrap64 (x8_2 + 1)) [.int .i64 (wrap64 (x8_2 + 1))] from rfl) (Reps.none _ _))); intro v219 w12 ho13 hb hg_ hnew_; clear hg_ hnew_; (first | rw [← Ny218.out] at ho13 | (simp only [Int.reduceToNat] at ho13; rw [← Ny218.out] at ho13)); have n0_ := Aside0.mk (Kd.S_elder' (by (with_reducible repeat (first | apply Kd.S_alloc | apply Kd.S_drewN | apply Kd.S_drew)); exact HO_7.out) (Kd.R_base ho13) hb); have n1_ := Aside0.mk (Kd.R_lower ho13 (below_size (by repeat (first | (with_reducible first | exact HB.out | apply below_alloc | apply pw_below_drewN | apply below_drew1) | exact HB.out)))); have n2_ := Aside0.mk (below_step (by repeat (first | (with_reducible first | exact HB.out | apply below_alloc | apply pw_below_drewN | apply below_drew1) | exact HB.out)) hb); clear HO_7; clear HB; have HO_7 := n0_; have HO220 := n1_; have HB := n2_; clear n0_ n1_ n2_; clear hb ho13) | ((with_reducible refine gate_builtin (b := .append) (xs := #[.tmp 54, .tmp 56]) rfl ?_); (try (refine gate_guard (by rfl) ?_; dsimp only)); at_builtin; refine Kd.R_append (Kd.int .i64) (w0 := w) w.heap.size rfl (.tmp 54) (.tmp 56) 27 3 (.int .i64 0) 8 rfl Try.underlying27 info3 rfl (by decide) (by omega) v219 y218 x2_4 [.int .i64 x2_4] (fun _ => True) (fun _ => False) rfl rfl ?aP (fun _ hk => hk.elim) ?aF ?aO ?aB ?aS ?aL ?_; (case aP => exact rfl); (case aB => exact (by repeat (first | (with_reducible first | exact HB.out | apply below_alloc | apply pw_below_drewN | apply below_drew1) | exact HB.out))); (case aF => exact (fun _ _ => trivial)); (case aO => exact (by (with_reducible repeat (first | apply Kd.R_alloc | apply Kd.R_drewN | apply Kd.R_drew)); exact HO220.out)); (case aS => exact (below_size (by repeat (first | (with_reducible first | exact HB.out | apply below_alloc | apply pw_below_drewN | apply below_drew1) | exact HB.out)))); (case aL => have := LMc10.out; omega); intro v222 w14 ho hb hg hat; rw [← Ny221.out] at ho; have n0_ := Aside0.mk (Kd.S_after (ok := (fun _ => True)) (by (with_reducible repeat (first | apply Kd.S_alloc | apply Kd.S_drewN | apply Kd.S_drew)); exact HO_7.out) hg hat); have n1_ := Aside0.mk (hb); have n2_ := Aside0.mk (ho); clear HO_7; clear HB; clear HO220; have HO_7 := n0_; have HB := n1_; have HO223 := n2_; clear n0_ n1_ n2_; clear ho hb hg hat; obtain ⟨Ao16, co16, eo16⟩ := Kd.R_slice HO223.out; subst eo16) | ((with_reducible refine gate_builtin (b := .append) (xs := #[.tmp 58, .tmp 60]) rfl ?_); (try (refine gate_guard (by rfl) ?_; dsimp only)); at_builtin; refine Kd.S_append (Kd.slice 3 (Kd.int .i64)) (w0 := w) w.heap.size rfl (.tmp 58) (.tmp 60) 22 27 (.slice none 0 0) 24 rfl Try.underlying22 info27 rfl (by decide) (by omega) u7 x7_2 y221 [.slice Ao16 y221.length co16] (fun _ => True) (fun k_ => some k_ = (.slice Ao16 y221.length co16 : Value).ownBlock) rfl rfl ?aP (fun k_ hk_ => ((Kd.R_mono (ok' := fun k_ => ((fun _ => True)) k_ ∧ some k_ ≠ (u7 : Value).ownBlock) (Kd.R_apart' (HO223.out) (Kd.S_typed HO_7.out) (by decide)) (fun k_ hk => ⟨trivial, hk.2⟩))).1 k_ hk_.symm) ?aF ?aO ?aB ?aS ?aL ?_; (case aP => exact Kd.M_row (Kd.R_mono (Kd.R_tight rfl (Kd.R_mono (ok' := fun k_ => ((fun _ => True)) k_ ∧ some k_ ≠ (u7 : Value).ownBlock) (Kd.R_apart' (HO223.out) (Kd.S_typed HO_7.out) (by decide)) (fun k_ hk => ⟨trivial, hk.2⟩))) (fun _ h_ => h_))); (case aB => exact (by repeat (first | (with_reducible first | exact HB.out | apply below_alloc | apply pw_below_drewN | apply below_drew1) | exact HB.out))); (case aF => exact (fun _ _ => trivial)); (case aO => exact (by (with_reducible repeat (first | apply Kd.S_alloc | apply Kd.S_drewN | apply Kd.S_drew)); exact Kd.S_mono HO_7.out (fun k_ hk => ⟨trivial, fun e_ => hk.2 e_⟩))); (case aS => exact (below_size (by repeat (first | (with_reducible first | exact HB.out | apply below_alloc | apply pw_below_drewN | apply below_drew1) | exact HB.out)))); (case aL => have := LMc11.out; omega); intro v225 w15 ho hb hg hat; rw [← Ny224.out] at ho; have n0_ := Aside0.mk (hb); have n1_ := Aside0.mk (ho); clear HB; clear HO_7; clear HO223; have HB := n0_; have HO226 := n1_; clear n0_ n1_; clear ho hb hg hat))
                      go_roundg k2
                      case measure => have := HJ4.out; have := HK2.out; omega
                      case rel => exact ⟨(y224), (wrap64 (x8_2 + 1)), (by first | rfl | (simp; done) | (simp [*]; done)), H', ⟨by have := HJ4.out; have := HK2.out; omega⟩, ⟨by (with_reducible repeat (first | apply Kd.S_alloc | apply Kd.S_drewN | apply Kd.S_drew)); exact HO226.out⟩, ⟨by repeat (first | (with_reducible first | exact HB.out | apply below_alloc | apply pw_below_drewN | apply below_drew1) | exact HB.out)⟩⟩
                    · rw [if_neg c11] at H
                      exact absurd H (by simp)
                  · rw [if_neg c10] at H
                    exact absurd H (by simp)
                · rw [if_neg c9] at H
                  have c9b0 : decide ((wrap64 (x1_4 + 1)) < x2_4) = false := decide_eq_false c9
                  clear c9
                  by_cases c17 : x7_2.length < 5864062014805
                  · rw [if_pos c17] at H
                    have LMc17 := Aside0.mk c17
                    clear c17
                    obtain ⟨y227, hy227⟩ : ∃ y_ : List (List Int), y_ = (x7_2 ++ [y218]) := ⟨_, rfl⟩
                    replace H : (ferrulelaw11_GraphLines.l0 k2 (wrap64 (3 + (Go.bits .and .i64 a0 15))) x1_4 x2_4 y227 (wrap64 (x8_2 + 1))) = some r := by first | (rw [hy227]; with_reducible exact H) | (have H2_ := (Option.bind_some _ _).symm.trans H; rw [hy227]; with_reducible exact H2_) | (have H2_ := (Option.bind_some _ _).symm.trans H; with_reducible exact H2_) | with_reducible exact H | (rw [hy227]; exact H) | exact H
                    have Ny227 := Aside0.mk hy227
                    clear hy227
                    have H' := Aside0.mk H
                    clear H
                    go_wp2_with (first | ((with_reducible refine gate_dst (N := 44) rfl ?_); (try (refine gate_guard (by rfl) ?_; dsimp only)); refine Kd.R_lit (Kd.int .i64) _ 3 ?hg (N := 44) ?hd (xs := ([wrap64 (x8_2 + 1)] : List Int)) (inner := [.int .i64 (wrap64 (x8_2 + 1))]) (ok := fun _ => True) (okp := fun _ => True) ?hr ?hp (fun _ hk => hk) trivial (Below.refl _ _) (Nat.le_refl _) (by simp) ?_; (case hd => rfl); (case hg => rfl); (case hr => first | (go_simp; done) | (go_simp; rfl)); (case hp => exact (Reps.one (show Kd.M (Kd.int .i64) _ _ _ (wrap64 (x8_2 + 1)) [.int .i64 (wrap64 (x8_2 + 1))] from rfl) (Reps.none _ _))); intro v219 w18 ho19 hb hg_ hnew_; clear hg_ hnew_; (first | rw [← Ny218.out] at ho19 | (simp only [Int.reduceToNat] at ho19; rw [← Ny218.out] at ho19)); have n0_ := Aside0.mk (Kd.S_elder' (by (with_reducible repeat (first | apply Kd.S_alloc | apply Kd.S_drewN | apply Kd.S_drew)); exact HO_7.out) (Kd.R_base ho19) hb); have n1_ := Aside0.mk (Kd.R_lower ho19 (below_size (by repeat (first | (with_reducible first | exact HB.out | apply below_alloc | apply pw_below_drewN | apply below_drew1) | exact HB.out)))); have n2_ := Aside0.mk (below_step (by repeat (first | (with_reducible first | exact HB.out | apply below_alloc | apply pw_below_drewN | apply below_drew1) | exact HB.out)) hb); clear HO_7; clear HB; have HO_7 := n0_; have HO220 := n1_; have HB := n2_; clear n0_ n1_ n2_; clear hb ho19; obtain ⟨Ao21, co21, eo21⟩ := Kd.R_slice HO220.out; subst eo21) | ((with_reducible refine gate_builtin (b := .append) (xs := #[.tmp 58, .tmp 60]) rfl ?_); (try (refine gate_guard (by rfl) ?_; dsimp only)); at_builtin; refine Kd.S_append (Kd.slice 3 (Kd.int .i64)) (w0 := w) w.heap.size rfl (.tmp 58) (.tmp 60) 22 27 (.slice none 0 0) 24 rfl Try.underlying22 info27 rfl (by decide) (by omega) u7 x7_2 y218 [.slice Ao21 y218.length co21] (fun _ => True) (fun k_ => some k_ = (.slice Ao21 y218.length co21 : Value).ownBlock) rfl rfl ?aP (fun k_ hk_ => ((Kd.R_mono (ok' := fun k_ => ((fun _ => True)) k_ ∧ some k_ ≠ (u7 : Value).ownBlock) (Kd.R_apart' (HO220.out) (Kd.S_typed HO_7.out) (by decide)) (fun k_ hk => ⟨trivial, hk.2⟩))).1 k_ hk_.symm) ?aF ?aO ?aB ?aS ?aL ?_; (case aP => exact Kd.M_row (Kd.R_mono (Kd.R_tight rfl (Kd.R_mono (ok' := fun k_ => ((fun _ => True)) k_ ∧ some k_ ≠ (u7 : Value).ownBlock) (Kd.R_apart' (HO220.out) (Kd.S_typed HO_7.out) (by decide)) (fun k_ hk => ⟨trivial, hk.2⟩))) (fun _ h_ => h_))); (case aB => exact (by repeat (first | (with_reducible first | exact HB.out | apply below_alloc | apply pw_below_drewN | apply below_drew1) | exact HB.out))); (case aF => exact (fun _ _ => trivial)); (case aO => exact (by (with_reducible repeat (first | apply Kd.S_alloc | apply Kd.S_drewN | apply Kd.S_drew)); exact Kd.S_mono HO_7.out (fun k_ hk => ⟨trivial, fun e_ => hk.2 e_⟩))); (case aS => exact (below_size (by repeat (first | (with_reducible first | exact HB.out | apply below_alloc | apply pw_below_drewN | apply below_drew1) | exact HB.out)))); (case aL => have := LMc17.out; omega); intro v228 w20 ho hb hg hat; rw [← Ny227.out] at ho; have n0_ := Aside0.mk (hb); have n1_ := Aside0.mk (ho); clear HB; clear HO_7; clear HO220; have HB := n0_; have HO229 := n1_; clear n0_ n1_; clear ho hb hg hat))
                    go_roundg k2
                    case measure => have := HJ4.out; have := HK2.out; omega
                    case rel => exact ⟨(y227), (wrap64 (x8_2 + 1)), (by first | rfl | (simp; done) | (simp [*]; done)), H', ⟨by have := HJ4.out; have := HK2.out; omega⟩, ⟨by (with_reducible repeat (first | apply Kd.S_alloc | apply Kd.S_drewN | apply Kd.S_drew)); exact HO229.out⟩, ⟨by repeat (first | (with_reducible first | exact HB.out | apply below_alloc | apply pw_below_drewN | apply below_drew1) | exact HB.out)⟩⟩
                  · rw [if_neg c17] at H
                    exact absurd H (by simp)
              · rw [if_neg c8] at H
                have c8b0 : (x8_2 == x1_4) = false := beq_eq_false_iff_ne.mpr c8
                have c8b1 : (x8_2 != x1_4) = true := bne_iff_ne.mpr c8
                by_cases c22 : x7_2.length < 5864062014805
                · rw [if_pos c22] at H
                  have LMc22 := Aside0.mk c22
                  clear c22
                  obtain ⟨y230, hy230⟩ : ∃ y_ : List (List Int), y_ = (x7_2 ++ [y218]) := ⟨_, rfl⟩
                  replace H : (ferrulelaw11_GraphLines.l0 k2 (wrap64 (3 + (Go.bits .and .i64 a0 15))) x1_4 x2_4 y230 (wrap64 (x8_2 + 1))) = some r := by first | (rw [hy230]; with_reducible exact H) | (have H2_ := (Option.bind_some _ _).symm.trans H; rw [hy230]; with_reducible exact H2_) | (have H2_ := (Option.bind_some _ _).symm.trans H; with_reducible exact H2_) | with_reducible exact H | (rw [hy230]; exact H) | exact H
                  have Ny230 := Aside0.mk hy230
                  clear hy230
                  have H' := Aside0.mk H
                  clear H
                  go_wp2_with (first | ((with_reducible refine gate_dst (N := 44) rfl ?_); (try (refine gate_guard (by rfl) ?_; dsimp only)); refine Kd.R_lit (Kd.int .i64) _ 3 ?hg (N := 44) ?hd (xs := ([wrap64 (x8_2 + 1)] : List Int)) (inner := [.int .i64 (wrap64 (x8_2 + 1))]) (ok := fun _ => True) (okp := fun _ => True) ?hr ?hp (fun _ hk => hk) trivial (Below.refl _ _) (Nat.le_refl _) (by simp) ?_; (case hd => rfl); (case hg => rfl); (case hr => first | (go_simp; done) | (go_simp; rfl)); (case hp => exact (Reps.one (show Kd.M (Kd.int .i64) _ _ _ (wrap64 (x8_2 + 1)) [.int .i64 (wrap64 (x8_2 + 1))] from rfl) (Reps.none _ _))); intro v219 w23 ho24 hb hg_ hnew_; clear hg_ hnew_; (first | rw [← Ny218.out] at ho24 | (simp only [Int.reduceToNat] at ho24; rw [← Ny218.out] at ho24)); have n0_ := Aside0.mk (Kd.S_elder' (by (with_reducible repeat (first | apply Kd.S_alloc | apply Kd.S_drewN | apply Kd.S_drew)); exact HO_7.out) (Kd.R_base ho24) hb); have n1_ := Aside0.mk (Kd.R_lower ho24 (below_size (by repeat (first | (with_reducible first | exact HB.out | apply below_alloc | apply pw_below_drewN | apply below_drew1) | exact HB.out)))); have n2_ := Aside0.mk (below_step (by repeat (first | (with_reducible first | exact HB.out | apply below_alloc | apply pw_below_drewN | apply below_drew1) | exact HB.out)) hb); clear HO_7; clear HB; have HO_7 := n0_; have HO220 := n1_; have HB := n2_; clear n0_ n1_ n2_; clear hb ho24; obtain ⟨Ao26, co26, eo26⟩ := Kd.R_slice HO220.out; subst eo26) | ((with_reducible refine gate_builtin (b := .append) (xs := #[.tmp 58, .tmp 60]) rfl ?_); (try (refine gate_guard (by rfl) ?_; dsimp only)); at_builtin; refine Kd.S_append (Kd.slice 3 (Kd.int .i64)) (w0 := w) w.heap.size rfl (.tmp 58) (.tmp 60) 22 27 (.slice none 0 0) 24 rfl Try.underlying22 info27 rfl (by decide) (by omega) u7 x7_2 y218 [.slice Ao26 y218.length co26] (fun _ => True) (fun k_ => some k_ = (.slice Ao26 y218.length co26 : Value).ownBlock) rfl rfl ?aP (fun k_ hk_ => ((Kd.R_mono (ok' := fun k_ => ((fun _ => True)) k_ ∧ some k_ ≠ (u7 : Value).ownBlock) (Kd.R_apart' (HO220.out) (Kd.S_typed HO_7.out) (by decide)) (fun k_ hk => ⟨trivial, hk.2⟩))).1 k_ hk_.symm) ?aF ?aO ?aB ?aS ?aL ?_; (case aP => exact Kd.M_row (Kd.R_mono (Kd.R_tight rfl (Kd.R_mono (ok' := fun k_ => ((fun _ => True)) k_ ∧ some k_ ≠ (u7 : Value).ownBlock) (Kd.R_apart' (HO220.out) (Kd.S_typed HO_7.out) (by decide)) (fun k_ hk => ⟨trivial, hk.2⟩))) (fun _ h_ => h_))); (case aB => exact (by repeat (first | (with_reducible first | exact HB.out | apply below_alloc | apply pw_below_drewN | apply below_drew1) | exact HB.out))); (case aF => exact (fun _ _ => trivial)); (case aO => exact (by (with_reducible repeat (first | apply Kd.S_alloc | apply Kd.S_drewN | apply Kd.S_drew)); exact Kd.S_mono HO_7.out (fun k_ hk => ⟨trivial, fun e_ => hk.2 e_⟩))); (case aS => exact (below_size (by repeat (first | (with_reducible first | exact HB.out | apply below_alloc | apply pw_below_drewN | apply below_drew1) | exact HB.out)))); (case aL => have := LMc22.out; omega); intro v231 w25 ho hb hg hat; rw [← Ny230.out] at ho; have n0_ := Aside0.mk (hb); have n1_ := Aside0.mk (ho); clear HB; clear HO_7; clear HO220; have HB := n0_; have HO232 := n1_; clear n0_ n1_; clear ho hb hg hat))
                  go_roundg k2
                  case measure => have := HJ4.out; have := HK2.out; omega
                  case rel => exact ⟨(y230), (wrap64 (x8_2 + 1)), (by first | rfl | (simp; done) | (simp [*]; done)), H', ⟨by have := HJ4.out; have := HK2.out; omega⟩, ⟨by (with_reducible repeat (first | apply Kd.S_alloc | apply Kd.S_drewN | apply Kd.S_drew)); exact HO232.out⟩, ⟨by repeat (first | (with_reducible first | exact HB.out | apply below_alloc | apply pw_below_drewN | apply below_drew1) | exact HB.out)⟩⟩
                · rw [if_neg c22] at H
                  exact absurd H (by simp)
            · rw [if_neg c7] at H
              have c7b0 : decide ((wrap64 (x8_2 + 1)) < (wrap64 (3 + (Go.bits .and .i64 a0 15)))) = false := decide_eq_false c7
              clear c7
              replace H := Option.bind_eq_some_iff.mp H
              obtain ⟨t233, A270, H⟩ := H
              replace H : ((graph_Order.f k2 (wrap64 (3 + (Go.bits .and .i64 a0 15))) x7_2).bind fun t236 => (if (t233.length : Int) = (wrap64 (3 + (Go.bits .and .i64 a0 15))) then (ferrulelaw11_GraphLines.j2 k2 (wrap64 (3 + (Go.bits .and .i64 a0 15))) x1_4 x2_4 t233 t236 ((t236.length : Int) != (wrap64 (3 + (Go.bits .and .i64 a0 15))))) else (ferrulelaw11_GraphLines.j2 k2 (wrap64 (3 + (Go.bits .and .i64 a0 15))) x1_4 x2_4 t233 t236 true))) = some r := H
              have A27 := Aside0.mk A270
              clear A270
              replace H := Option.bind_eq_some_iff.mp H
              obtain ⟨t236, A280, H⟩ := H
              replace H : (if (t233.length : Int) = (wrap64 (3 + (Go.bits .and .i64 a0 15))) then (ferrulelaw11_GraphLines.j2 k2 (wrap64 (3 + (Go.bits .and .i64 a0 15))) x1_4 x2_4 t233 t236 ((t236.length : Int) != (wrap64 (3 + (Go.bits .and .i64 a0 15))))) else (ferrulelaw11_GraphLines.j2 k2 (wrap64 (3 + (Go.bits .and .i64 a0 15))) x1_4 x2_4 t233 t236 true)) = some r := H
              have A28 := Aside0.mk A280
              clear A280
              have HC29 := Aside0.mk H
              clear H
              obtain ⟨Ao30, co30, eo30⟩ := Kd.S_slice HO_7.out
              subst eo30
              go_upto_region 16 with (first | ((with_reducible refine gate_callee (f := 18) rfl ?_); refine goesL_ (some 64) rfl rfl Try.func18 (by kernel_rfl) rfl #[.int .i64 (wrap64 (3 + (Go.bits .and .i64 a0 15))), .slice Ao30 x7_2.length co30] rfl (by (try simp only [List.map_toArray, List.map_cons, List.map_nil]); first | done | rfl | (simp only [List.length_drop, List.length_take]; rfl)) ?_; (with_reducible refine (graph_Doms.calls k2 (wrap64 (3 + (Go.bits .and .i64 a0 15))) _ _ x7_2 t233 _ ?side1 ?side2 A27.out).mono ?_); (case side1 => repeat (first | exact (Kd.S_reads' HO_7.out).2.2 | (with_reducible refine Kd.C_alloc ?_ _) | (with_reducible refine Kd.C_drewN ?_ _) | (with_reducible refine Kd.C_drew ?_))); (case side2 => exact (Kd.S_reads' HO_7.out).2.1); rintro e w31 ⟨v234, rfl, ho0, hb⟩; refine ⟨_, rfl, ?_⟩; have n0_ := Aside0.mk (Kd.S_elder' (by (with_reducible repeat (first | apply Kd.S_alloc | apply Kd.S_drewN | apply Kd.S_drew)); exact HO_7.out) (Kd.R_base ho0) hb); have n1_ := Aside0.mk (Kd.R_lower ho0 (below_size (by repeat (first | (with_reducible first | exact HB.out | apply below_alloc | apply pw_below_drewN | apply below_drew1) | exact HB.out)))); have n2_ := Aside0.mk (below_step (by repeat (first | (with_reducible first | exact HB.out | apply below_alloc | apply pw_below_drewN | apply below_drew1) | exact HB.out)) hb); clear HO_7; clear HB; have HO_7 := n0_; have HO235 := n1_; have HB := n2_; clear n0_ n1_ n2_; (try clear hb); (try clear hb2); (try clear hk); (try clear hi); (try clear ho0)) | ((with_reducible refine gate_callee (f := 19) rfl ?_); refine goesL_ (some 67) rfl rfl Try.func19 (by kernel_rfl) rfl #[.int .i64 (wrap64 (3 + (Go.bits .and .i64 a0 15))), .slice Ao30 x7_2.length co30] rfl (by (try simp only [List.map_toArray, List.map_cons, List.map_nil]); first | done | rfl | (simp only [List.length_drop, List.length_take]; rfl)) ?_; (with_reducible refine (graph_Order.calls k2 (wrap64 (3 + (Go.bits .and .i64 a0 15))) _ _ x7_2 t236 _ ?side1 ?side2 A28.out).mono ?_); (case side1 => repeat (first | exact (Kd.S_reads' HO_7.out).2.2 | (with_reducible refine Kd.C_alloc ?_ _) | (with_reducible refine Kd.C_drewN ?_ _) | (with_reducible refine Kd.C_drew ?_))); (case side2 => exact (Kd.S_reads' HO_7.out).2.1); rintro e w32 ⟨v237, rfl, ho0, hb⟩; refine ⟨_, rfl, ?_⟩; have n0_ := Aside0.mk (Kd.S_elder' (by (with_reducible repeat (first | apply Kd.S_alloc | apply Kd.S_drewN | apply Kd.S_drew)); exact HO_7.out) (Kd.R_base ho0) hb); have n1_ := Aside0.mk (Kd.R_elder' (by (with_reducible repeat (first | apply Kd.R_alloc | apply Kd.R_drewN | apply Kd.R_drew)); exact HO235.out) (Kd.R_base ho0) hb); have n2_ := Aside0.mk (Kd.R_lower (Kd.R_new' ho0 (Kd.R_lt (by (with_reducible repeat (first | apply Kd.R_alloc | apply Kd.R_drewN | apply Kd.R_drew)); exact HO235.out))) (below_size (by repeat (first | (with_reducible first | exact HB.out | apply below_alloc | apply pw_below_drewN | apply below_drew1) | exact HB.out)))); have n3_ := Aside0.mk (below_step (by repeat (first | (with_reducible first | exact HB.out | apply below_alloc | apply pw_below_drewN | apply below_drew1) | exact HB.out)) hb); clear HO_7; clear HO235; clear HB; have HO_7 := n0_; have HO235 := n1_; have HO238 := n2_; have HB := n3_; clear n0_ n1_ n2_ n3_; (try clear hb); (try clear hb2); (try clear hk); (try clear hi); (try clear ho0)))
              (try simp only [Act.put, List.setIfInBounds_toArray, List.set_cons_zero, List.set_cons_succ])
              go_cut [77] (fun v77 wc => ∃ (kq : Nat) (x77_28 : Bool), v77 = .bool x77_28 ∧ Aside0 (ferrulelaw11_GraphLines.j2 kq (wrap64 (3 + (Go.bits .and .i64 a0 15))) x1_4 x2_4 t233 t236 x77_28 = some r) ∧ Aside0 (kq ≤ k2) ∧ Aside0 (Kd.R (Kd.int .i64) 3 wc w.heap.size (fun k_ => some k_ ≠ (v237 : Value).ownBlock) v234 t233) ∧ Aside0 (Kd.R (Kd.int .i64) 3 wc w.heap.size (fun k_ => some k_ ≠ (v234 : Value).ownBlock) v237 t236) ∧ Aside0 (Below w.heap.size w wc))
              case first =>
                have H := HC29.out
                clear HC29
                by_cases c33 : (t233.length : Int) = (wrap64 (3 + (Go.bits .and .i64 a0 15)))
                · rw [if_pos c33] at H
                  have c33b0 : ((t233.length : Int) == (wrap64 (3 + (Go.bits .and .i64 a0 15)))) = true := beq_iff_eq.mpr c33
                  have c33b1 : ((t233.length : Int) != (wrap64 (3 + (Go.bits .and .i64 a0 15)))) = false := bne_eq_false_iff_eq.mpr c33
                  clear c33
                  (first | rw [c33b0] | (simp only [i64_w, i32_w]; rw [c33b0]) | skip)
                  have H' := Aside0.mk H
                  clear H
                  obtain ⟨Ao34, co34, eo34⟩ := Kd.R_slice HO235.out
                  subst eo34
                  obtain ⟨Ao35, co35, eo35⟩ := Kd.R_slice HO238.out
                  subst eo35
                  go_wp2
                  go_meet
                  case rel => exact ⟨_, (((t236.length : Int) != (wrap64 (3 + (Go.bits .and .i64 a0 15))))), (by first | rfl | (simp; done) | (simp [*]; done)), H', ⟨by have := HJ4.out; have := HK2.out; first | omega | exact Nat.le_refl _⟩, ⟨by (with_reducible repeat (first | apply Kd.R_alloc | apply Kd.R_drewN | apply Kd.R_drew)); exact Kd.R_mono HO235.out (fun _ hk => hk.2)⟩, ⟨by (with_reducible repeat (first | apply Kd.R_alloc | apply Kd.R_drewN | apply Kd.R_drew)); exact Kd.R_mono HO238.out (fun _ hk => hk.2)⟩, ⟨by repeat (first | (with_reducible first | exact HB.out | apply below_alloc | apply pw_below_drewN | apply below_drew1) | exact HB.out)⟩⟩
                · rw [if_neg c33] at H
                  have c33b0 : ((t233.length : Int) == (wrap64 (3 + (Go.bits .and .i64 a0 15)))) = false := beq_eq_false_iff_ne.mpr c33
                  have c33b1 : ((t233.length : Int) != (wrap64 (3 + (Go.bits .and .i64 a0 15)))) = true := bne_iff_ne.mpr c33
                  (first | rw [c33b0] | (simp only [i64_w, i32_w]; rw [c33b0]) | skip)
                  have H' := Aside0.mk H
                  clear H
                  obtain ⟨Ao36, co36, eo36⟩ := Kd.R_slice HO235.out
                  subst eo36
                  go_wp2
                  go_meet
                  case rel => exact ⟨_, (true), (by first | rfl | (simp; done) | (simp [*]; done)), H', ⟨by have := HJ4.out; have := HK2.out; first | omega | exact Nat.le_refl _⟩, ⟨by (with_reducible repeat (first | apply Kd.R_alloc | apply Kd.R_drewN | apply Kd.R_drew)); exact Kd.R_mono HO235.out (fun _ hk => hk.2)⟩, ⟨by (with_reducible repeat (first | apply Kd.R_alloc | apply Kd.R_drewN | apply Kd.R_drew)); exact Kd.R_mono HO238.out (fun _ hk => hk.2)⟩, ⟨by repeat (first | (with_reducible first | exact HB.out | apply below_alloc | apply pw_below_drewN | apply below_drew1) | exact HB.out)⟩⟩
              case rest =>
                clear HC29
                try clear c1
                try clear c2
                try clear p2
                try clear c3
                try clear c4
                try clear c4b0
                try clear c4b1
                try clear c6
                try clear c6b0
                try clear p6
                try clear c7
                try clear c7b0
                try clear c8
                try clear c8b0
                try clear c8b1
                try clear c9
                try clear c9b0
                try clear c10
                try clear c11
                try clear c17
                try clear c18
                try clear c19
                try clear c22
                try clear c33
                try clear c33b0
                try clear c33b1
                try clear p2
                try clear p6
                obtain ⟨kq, x77_28, rfl, HA, HJ28, HO_10, HO_11, HB⟩ := hcut
                cases kq with
                | zero => exact absurd HA.out (by simp [ferrulelaw11_GraphLines.j2])
                | succ kj28 =>
                  have H := HA.out
                  clear HA
                  simp only [ferrulelaw11_GraphLines.j2] at H
                  by_cases c37 : x77_28 = true
                  · subst c37
                    have H1 : (some false) = some r := by rw [if_pos rfl] at H; exact H
                    clear H
                    have H := H1
                    clear H1
                    obtain rfl := Option.some.inj H
                    go_wp2
                    go_ret
                    exact ⟨by first | rfl | (simp [errW_none, errW_some] <;> rfl) | (simp [*, errW_none, errW_some] <;> rfl), by repeat (first | (with_reducible first | exact HB.out | apply below_alloc | apply pw_below_drewN | apply below_drew1) | exact HB.out)⟩
                  · replace c37 := Bool.eq_false_iff.mpr c37
                    subst c37
                    have H1 : (ferrulelaw11_GraphLines.l1 kj28 (wrap64 (3 + (Go.bits .and .i64 a0 15))) x1_4 x2_4 t233 t236 0) = some r := by rw [if_neg (show ¬ (false = true) by decide)] at H; exact H
                    clear H
                    have H := H1
                    clear H1
                    have H' := Aside0.mk H
                    clear H
                    go_wp2
                    go_loopg [12] kj28 (fun kq v12 w' => ∃ (x12_4 : Int), v12 = .int .i64 x12_4 ∧ Aside0 (ferrulelaw11_GraphLines.l1 kq (wrap64 (3 + (Go.bits .and .i64 a0 15))) x1_4 x2_4 t233 t236 x12_4 = some r) ∧ Aside0 (kq ≤ kj28) ∧ Aside0 (Kd.R (Kd.int .i64) 3 w' w.heap.size (fun k_ => some k_ ≠ (v237 : Value).ownBlock) v234 t233) ∧ Aside0 (Kd.R (Kd.int .i64) 3 w' w.heap.size (fun k_ => some k_ ≠ (v234 : Value).ownBlock) v237 t236) ∧ Aside0 (Below w.heap.size w w'))
                    case atStart => exact ⟨(0), (by first | rfl | (simp; done) | (simp [*]; done)), H', ⟨Nat.le_refl _⟩, ⟨by (with_reducible repeat (first | apply Kd.R_alloc | apply Kd.R_drewN | apply Kd.R_drew)); exact HO_10.out⟩, ⟨by (with_reducible repeat (first | apply Kd.R_alloc | apply Kd.R_drewN | apply Kd.R_drew)); exact HO_11.out⟩, ⟨by repeat (first | (with_reducible first | exact HB.out | apply below_alloc | apply pw_below_drewN | apply below_drew1) | exact HB.out)⟩⟩
                    case round =>
                      clear H'
                      try clear c1
                      try clear c2
                      try clear p2
                      try clear c3
                      try clear c4
                      try clear c4b0
                      try clear c4b1
                      try clear c6
                      try clear c6b0
                      try clear p6
                      try clear c7
                      try clear c7b0
                      try clear c8
                      try clear c8b0
                      try clear c8b1
                      try clear c9
                      try clear c9b0
                      try clear c10
                      try clear c11
                      try clear c17
                      try clear c18
                      try clear c19
                      try clear c22
                      try clear c33
                      try clear c33b0
                      try clear c33b1
                      try clear c37
                      try clear p2
                      try clear p6
                      obtain ⟨x12_4, rfl, HA, HK4, HO_10, HO_11, HB⟩ := hrel
                      cases gk with
                      | zero => exact absurd HA.out (by simp [ferrulelaw11_GraphLines.l1])
                      | succ k4 =>
                        have H := HA.out
                        clear HA
                        simp only [ferrulelaw11_GraphLines.l1] at H
                        by_cases c38 : x12_4 < (wrap64 (3 + (Go.bits .and .i64 a0 15)))
                        · rw [if_pos c38] at H
                          have c38b0 : decide (x12_4 < (wrap64 (3 + (Go.bits .and .i64 a0 15)))) = true := decide_eq_true c38
                          clear c38
                          have HC39 := Aside0.mk H
                          clear H
                          go_upto_region 22 with (fail)
                          go_cut [93] (fun v93 wc => ∃ (kq : Nat) (x93_38 : Bool), v93 = .bool x93_38 ∧ Aside0 (ferrulelaw11_GraphLines.j4 kq (wrap64 (3 + (Go.bits .and .i64 a0 15))) x1_4 x2_4 t233 t236 x12_4 (wrap64 (x12_4 - 1)) x93_38 = some r) ∧ Aside0 (kq ≤ k4) ∧ Aside0 (Kd.R (Kd.int .i64) 3 wc w.heap.size (fun k_ => some k_ ≠ (v237 : Value).ownBlock) v234 t233) ∧ Aside0 (Kd.R (Kd.int .i64) 3 wc w.heap.size (fun k_ => some k_ ≠ (v234 : Value).ownBlock) v237 t236) ∧ Aside0 (Below w.heap.size w wc))
                          case first =>
                            have H := HC39.out
                            clear HC39
                            by_cases c40 : x12_4 = x2_4
                            · rw [if_pos c40] at H
                              have c40b0 : (x12_4 == x2_4) = true := beq_iff_eq.mpr c40
                              have c40b1 : (x12_4 != x2_4) = false := bne_eq_false_iff_eq.mpr c40
                              clear c40
                              (first | rw [c40b0] | (simp only [i64_w, i32_w]; rw [c40b0]) | skip)
                              have H' := Aside0.mk H
                              clear H
                              go_wp2
                              go_meet
                              case rel => exact ⟨_, (decide (x2_4 > (wrap64 (x1_4 + 1)))), (by first | rfl | (simp; done) | (simp [*]; done)), H', ⟨by have := HJ4.out; have := HK2.out; have := HJ28.out; have := HK4.out; first | omega | exact Nat.le_refl _⟩, ⟨by (with_reducible repeat (first | apply Kd.R_alloc | apply Kd.R_drewN | apply Kd.R_drew)); exact HO_10.out⟩, ⟨by (with_reducible repeat (first | apply Kd.R_alloc | apply Kd.R_drewN | apply Kd.R_drew)); exact HO_11.out⟩, ⟨by repeat (first | (with_reducible first | exact HB.out | apply below_alloc | apply pw_below_drewN | apply below_drew1) | exact HB.out)⟩⟩
                            · rw [if_neg c40] at H
                              have c40b0 : (x12_4 == x2_4) = false := beq_eq_false_iff_ne.mpr c40
                              have c40b1 : (x12_4 != x2_4) = true := bne_iff_ne.mpr c40
                              (first | rw [c40b0] | (simp only [i64_w, i32_w]; rw [c40b0]) | skip)
                              have H' := Aside0.mk H
                              clear H
                              go_wp2
                              go_meet
                              case rel => exact ⟨_, (false), (by first | rfl | (simp; done) | (simp [*]; done)), H', ⟨by have := HJ4.out; have := HK2.out; have := HJ28.out; have := HK4.out; first | omega | exact Nat.le_refl _⟩, ⟨by (with_reducible repeat (first | apply Kd.R_alloc | apply Kd.R_drewN | apply Kd.R_drew)); exact HO_10.out⟩, ⟨by (with_reducible repeat (first | apply Kd.R_alloc | apply Kd.R_drewN | apply Kd.R_drew)); exact HO_11.out⟩, ⟨by repeat (first | (with_reducible first | exact HB.out | apply below_alloc | apply pw_below_drewN | apply below_drew1) | exact HB.out)⟩⟩
                          case rest =>
                            clear HC39
                            try clear c1
                            try clear c2
                            try clear p2
                            try clear c3
                            try clear c4
                            try clear c4b0
                            try clear c4b1
                            try clear c6
                            try clear c6b0
                            try clear p6
                            try clear c7
                            try clear c7b0
                            try clear c8
                            try clear c8b0
                            try clear c8b1
                            try clear c9
                            try clear c9b0
                            try clear c10
                            try clear c11
                            try clear c17
                            try clear c18
                            try clear c19
                            try clear c22
                            try clear c33
                            try clear c33b0
                            try clear c33b1
                            try clear c37
                            try clear c38
                            try clear c38b0
                            try clear c40
                            try clear c40b0
                            try clear c40b1
                            try clear p2
                            try clear p6
                            obtain ⟨kq, x93_38, rfl, HA, HJ38, HO_10, HO_11, HB⟩ := hcut
                            cases kq with
                            | zero => exact absurd HA.out (by simp [ferrulelaw11_GraphLines.j4])
                            | succ kj38 =>
                              have H := HA.out
                              clear HA
                              simp only [ferrulelaw11_GraphLines.j4] at H
                              by_cases c41 : x93_38 = true
                              · subst c41
                                have H1 : (if 0 ≤ x12_4 then (if x12_4 < (t233.length : Int) then (if (rd t233 x12_4) = x1_4 then (if x12_4 < (t236.length : Int) then (if (rd t236 x12_4) = x12_4 then (ferrulelaw11_GraphLines.l1 kj38 (wrap64 (3 + (Go.bits .and .i64 a0 15))) x1_4 x2_4 t233 t236 (wrap64 (x12_4 + 1))) else (some false)) else (none)) else (some false)) else (none)) else (none)) = some r := by rw [if_pos rfl] at H; exact H
                                clear H
                                have H := H1
                                clear H1
                                by_cases c42 : 0 ≤ x12_4
                                · rw [if_pos c42] at H
                                  have c42b0 : decide (0 ≤ x12_4) = true := decide_eq_true c42
                                  clear c42
                                  by_cases c43 : x12_4 < (t233.length : Int)
                                  · rw [if_pos c43] at H
                                    have c43b0 : decide (x12_4 < (t233.length : Int)) = true := decide_eq_true c43
                                    clear c43
                                    by_cases c44 : (rd t233 x12_4) = x1_4
                                    · rw [if_pos c44] at H
                                      have c44b0 : ((rd t233 x12_4) == x1_4) = true := beq_iff_eq.mpr c44
                                      have c44b1 : ((rd t233 x12_4) != x1_4) = false := bne_eq_false_iff_eq.mpr c44
                                      clear c44
                                      by_cases c45 : x12_4 < (t236.length : Int)
                                      · rw [if_pos c45] at H
                                        have c45b0 : decide (x12_4 < (t236.length : Int)) = true := decide_eq_true c45
                                        clear c45
                                        by_cases c46 : (rd t236 x12_4) = x12_4
                                        · rw [if_pos c46] at H
                                          have c46b0 : ((rd t236 x12_4) == x12_4) = true := beq_iff_eq.mpr c46
                                          have c46b1 : ((rd t236 x12_4) != x12_4) = false := bne_eq_false_iff_eq.mpr c46
                                          clear c46
                                          have H' := Aside0.mk H
                                          clear H
                                          obtain ⟨Ao47, co47, eo47⟩ := Kd.R_slice HO_10.out
                                          subst eo47
                                          have p239 : 0 ≤ (x12_4 : Int) := of_decide_eq_true (by first | (with_reducible assumption) | assumption)
                                          have q239 : x12_4 < (t233.length : Int) := of_decide_eq_true (by first | (with_reducible assumption) | assumption)
                                          obtain ⟨ad239, e239, hx239_0⟩ := Kd.at_int (Kd.R_reads' HO_10.out).2.2 x12_4 p239 q239
                                          cases e239
                                          replace p239 := eq_true p239
                                          replace q239 := eq_true q239
                                          obtain ⟨Ao48, co48, eo48⟩ := Kd.R_slice HO_11.out
                                          subst eo48
                                          have p240 : 0 ≤ (x12_4 : Int) := of_decide_eq_true (by first | (with_reducible assumption) | assumption)
                                          have q240 : x12_4 < (t236.length : Int) := of_decide_eq_true (by first | (with_reducible assumption) | assumption)
                                          obtain ⟨ad240, e240, hx240_0⟩ := Kd.at_int (Kd.R_reads' HO_11.out).2.2 x12_4 p240 q240
                                          cases e240
                                          replace p240 := eq_true p240
                                          replace q240 := eq_true q240
                                          go_wp2
                                          go_roundg kj38
                                          case measure => have := HJ4.out; have := HK2.out; have := HJ28.out; have := HK4.out; have := HJ38.out; omega
                                          case rel => exact ⟨(wrap64 (x12_4 + 1)), (by first | rfl | (simp; done) | (simp [*]; done)), H', ⟨by have := HJ4.out; have := HK2.out; have := HJ28.out; have := HK4.out; have := HJ38.out; omega⟩, ⟨by (with_reducible repeat (first | apply Kd.R_alloc | apply Kd.R_drewN | apply Kd.R_drew)); exact HO_10.out⟩, ⟨by (with_reducible repeat (first | apply Kd.R_alloc | apply Kd.R_drewN | apply Kd.R_drew)); exact HO_11.out⟩, ⟨by repeat (first | (with_reducible first | exact HB.out | apply below_alloc | apply pw_below_drewN | apply below_drew1) | exact HB.out)⟩⟩
                                        · rw [if_neg c46] at H
                                          have c46b0 : ((rd t236 x12_4) == x12_4) = false := beq_eq_false_iff_ne.mpr c46
                                          have c46b1 : ((rd t236 x12_4) != x12_4) = true := bne_iff_ne.mpr c46
                                          obtain rfl := Option.some.inj H
                                          obtain ⟨Ao49, co49, eo49⟩ := Kd.R_slice HO_10.out
                                          subst eo49
                                          have p239 : 0 ≤ (x12_4 : Int) := of_decide_eq_true (by first | (with_reducible assumption) | assumption)
                                          have q239 : x12_4 < (t233.length : Int) := of_decide_eq_true (by first | (with_reducible assumption) | assumption)
                                          obtain ⟨ad239, e239, hx239_0⟩ := Kd.at_int (Kd.R_reads' HO_10.out).2.2 x12_4 p239 q239
                                          cases e239
                                          replace p239 := eq_true p239
                                          replace q239 := eq_true q239
                                          obtain ⟨Ao50, co50, eo50⟩ := Kd.R_slice HO_11.out
                                          subst eo50
                                          have p240 : 0 ≤ (x12_4 : Int) := of_decide_eq_true (by first | (with_reducible assumption) | assumption)
                                          have q240 : x12_4 < (t236.length : Int) := of_decide_eq_true (by first | (with_reducible assumption) | assumption)
                                          obtain ⟨ad240, e240, hx240_0⟩ := Kd.at_int (Kd.R_reads' HO_11.out).2.2 x12_4 p240 q240
                                          cases e240
                                          replace p240 := eq_true p240
                                          replace q240 := eq_true q240
                                          go_wp2
                                          go_ret
                                          exact ⟨by first | rfl | (simp [errW_none, errW_some] <;> rfl) | (simp [*, errW_none, errW_some] <;> rfl), by repeat (first | (with_reducible first | exact HB.out | apply below_alloc | apply pw_below_drewN | apply below_drew1) | exact HB.out)⟩
                                      · rw [if_neg c45] at H
                                        exact absurd H (by simp)
                                    · rw [if_neg c44] at H
                                      have c44b0 : ((rd t233 x12_4) == x1_4) = false := beq_eq_false_iff_ne.mpr c44
                                      have c44b1 : ((rd t233 x12_4) != x1_4) = true := bne_iff_ne.mpr c44
                                      obtain rfl := Option.some.inj H
                                      obtain ⟨Ao51, co51, eo51⟩ := Kd.R_slice HO_10.out
                                      subst eo51
                                      have p239 : 0 ≤ (x12_4 : Int) := of_decide_eq_true (by first | (with_reducible assumption) | assumption)
                                      have q239 : x12_4 < (t233.length : Int) := of_decide_eq_true (by first | (with_reducible assumption) | assumption)
                                      obtain ⟨ad239, e239, hx239_0⟩ := Kd.at_int (Kd.R_reads' HO_10.out).2.2 x12_4 p239 q239
                                      cases e239
                                      replace p239 := eq_true p239
                                      replace q239 := eq_true q239
                                      go_wp2
                                      go_ret
                                      exact ⟨by first | rfl | (simp [errW_none, errW_some] <;> rfl) | (simp [*, errW_none, errW_some] <;> rfl), by repeat (first | (with_reducible first | exact HB.out | apply below_alloc | apply pw_below_drewN | apply below_drew1) | exact HB.out)⟩
                                  · rw [if_neg c43] at H
                                    exact absurd H (by simp)
                                · rw [if_neg c42] at H
                                  exact absurd H (by simp)
                              · replace c41 := Bool.eq_false_iff.mpr c41
                                subst c41
                                have H1 : (if 0 ≤ x12_4 then (if x12_4 < (t233.length : Int) then (if (rd t233 x12_4) = (wrap64 (x12_4 - 1)) then (if x12_4 < (t236.length : Int) then (if (rd t236 x12_4) = x12_4 then (ferrulelaw11_GraphLines.l1 kj38 (wrap64 (3 + (Go.bits .and .i64 a0 15))) x1_4 x2_4 t233 t236 (wrap64 (x12_4 + 1))) else (some false)) else (none)) else (some false)) else (none)) else (none)) = some r := by rw [if_neg (show ¬ (false = true) by decide)] at H; exact H
                                clear H
                                have H := H1
                                clear H1
                                by_cases c52 : 0 ≤ x12_4
                                · rw [if_pos c52] at H
                                  have c52b0 : decide (0 ≤ x12_4) = true := decide_eq_true c52
                                  clear c52
                                  by_cases c53 : x12_4 < (t233.length : Int)
                                  · rw [if_pos c53] at H
                                    have c53b0 : decide (x12_4 < (t233.length : Int)) = true := decide_eq_true c53
                                    clear c53
                                    by_cases c54 : (rd t233 x12_4) = (wrap64 (x12_4 - 1))
                                    · rw [if_pos c54] at H
                                      have c54b0 : ((rd t233 x12_4) == (wrap64 (x12_4 - 1))) = true := beq_iff_eq.mpr c54
                                      have c54b1 : ((rd t233 x12_4) != (wrap64 (x12_4 - 1))) = false := bne_eq_false_iff_eq.mpr c54
                                      clear c54
                                      by_cases c55 : x12_4 < (t236.length : Int)
                                      · rw [if_pos c55] at H
                                        have c55b0 : decide (x12_4 < (t236.length : Int)) = true := decide_eq_true c55
                                        clear c55
                                        by_cases c56 : (rd t236 x12_4) = x12_4
                                        · rw [if_pos c56] at H
                                          have c56b0 : ((rd t236 x12_4) == x12_4) = true := beq_iff_eq.mpr c56
                                          have c56b1 : ((rd t236 x12_4) != x12_4) = false := bne_eq_false_iff_eq.mpr c56
                                          clear c56
                                          have H' := Aside0.mk H
                                          clear H
                                          obtain ⟨Ao57, co57, eo57⟩ := Kd.R_slice HO_10.out
                                          subst eo57
                                          have p241 : 0 ≤ (x12_4 : Int) := of_decide_eq_true (by first | (with_reducible assumption) | assumption)
                                          have q241 : x12_4 < (t233.length : Int) := of_decide_eq_true (by first | (with_reducible assumption) | assumption)
                                          obtain ⟨ad241, e241, hx241_0⟩ := Kd.at_int (Kd.R_reads' HO_10.out).2.2 x12_4 p241 q241
                                          cases e241
                                          replace p241 := eq_true p241
                                          replace q241 := eq_true q241
                                          obtain ⟨Ao58, co58, eo58⟩ := Kd.R_slice HO_11.out
                                          subst eo58
                                          have p242 : 0 ≤ (x12_4 : Int) := of_decide_eq_true (by first | (with_reducible assumption) | assumption)
                                          have q242 : x12_4 < (t236.length : Int) := of_decide_eq_true (by first | (with_reducible assumption) | assumption)
                                          obtain ⟨ad242, e242, hx242_0⟩ := Kd.at_int (Kd.R_reads' HO_11.out).2.2 x12_4 p242 q242
                                          cases e242
                                          replace p242 := eq_true p242
                                          replace q242 := eq_true q242
                                          go_wp2
                                          go_roundg kj38
                                          case measure => have := HJ4.out; have := HK2.out; have := HJ28.out; have := HK4.out; have := HJ38.out; omega
                                          case rel => exact ⟨(wrap64 (x12_4 + 1)), (by first | rfl | (simp; done) | (simp [*]; done)), H', ⟨by have := HJ4.out; have := HK2.out; have := HJ28.out; have := HK4.out; have := HJ38.out; omega⟩, ⟨by (with_reducible repeat (first | apply Kd.R_alloc | apply Kd.R_drewN | apply Kd.R_drew)); exact HO_10.out⟩, ⟨by (with_reducible repeat (first | apply Kd.R_alloc | apply Kd.R_drewN | apply Kd.R_drew)); exact HO_11.out⟩, ⟨by repeat (first | (with_reducible first | exact HB.out | apply below_alloc | apply pw_below_drewN | apply below_drew1) | exact HB.out)⟩⟩
                                        · rw [if_neg c56] at H
                                          have c56b0 : ((rd t236 x12_4) == x12_4) = false := beq_eq_false_iff_ne.mpr c56
                                          have c56b1 : ((rd t236 x12_4) != x12_4) = true := bne_iff_ne.mpr c56
                                          obtain rfl := Option.some.inj H
                                          obtain ⟨Ao59, co59, eo59⟩ := Kd.R_slice HO_10.out
                                          subst eo59
                                          have p241 : 0 ≤ (x12_4 : Int) := of_decide_eq_true (by first | (with_reducible assumption) | assumption)
                                          have q241 : x12_4 < (t233.length : Int) := of_decide_eq_true (by first | (with_reducible assumption) | assumption)
                                          obtain ⟨ad241, e241, hx241_0⟩ := Kd.at_int (Kd.R_reads' HO_10.out).2.2 x12_4 p241 q241
                                          cases e241
                                          replace p241 := eq_true p241
                                          replace q241 := eq_true q241
                                          obtain ⟨Ao60, co60, eo60⟩ := Kd.R_slice HO_11.out
                                          subst eo60
                                          have p242 : 0 ≤ (x12_4 : Int) := of_decide_eq_true (by first | (with_reducible assumption) | assumption)
                                          have q242 : x12_4 < (t236.length : Int) := of_decide_eq_true (by first | (with_reducible assumption) | assumption)
                                          obtain ⟨ad242, e242, hx242_0⟩ := Kd.at_int (Kd.R_reads' HO_11.out).2.2 x12_4 p242 q242
                                          cases e242
                                          replace p242 := eq_true p242
                                          replace q242 := eq_true q242
                                          go_wp2
                                          go_ret
                                          exact ⟨by first | rfl | (simp [errW_none, errW_some] <;> rfl) | (simp [*, errW_none, errW_some] <;> rfl), by repeat (first | (with_reducible first | exact HB.out | apply below_alloc | apply pw_below_drewN | apply below_drew1) | exact HB.out)⟩
                                      · rw [if_neg c55] at H
                                        exact absurd H (by simp)
                                    · rw [if_neg c54] at H
                                      have c54b0 : ((rd t233 x12_4) == (wrap64 (x12_4 - 1))) = false := beq_eq_false_iff_ne.mpr c54
                                      have c54b1 : ((rd t233 x12_4) != (wrap64 (x12_4 - 1))) = true := bne_iff_ne.mpr c54
                                      obtain rfl := Option.some.inj H
                                      obtain ⟨Ao61, co61, eo61⟩ := Kd.R_slice HO_10.out
                                      subst eo61
                                      have p241 : 0 ≤ (x12_4 : Int) := of_decide_eq_true (by first | (with_reducible assumption) | assumption)
                                      have q241 : x12_4 < (t233.length : Int) := of_decide_eq_true (by first | (with_reducible assumption) | assumption)
                                      obtain ⟨ad241, e241, hx241_0⟩ := Kd.at_int (Kd.R_reads' HO_10.out).2.2 x12_4 p241 q241
                                      cases e241
                                      replace p241 := eq_true p241
                                      replace q241 := eq_true q241
                                      go_wp2
                                      go_ret
                                      exact ⟨by first | rfl | (simp [errW_none, errW_some] <;> rfl) | (simp [*, errW_none, errW_some] <;> rfl), by repeat (first | (with_reducible first | exact HB.out | apply below_alloc | apply pw_below_drewN | apply below_drew1) | exact HB.out)⟩
                                  · rw [if_neg c53] at H
                                    exact absurd H (by simp)
                                · rw [if_neg c52] at H
                                  exact absurd H (by simp)
                        · rw [if_neg c38] at H
                          have c38b0 : decide (x12_4 < (wrap64 (3 + (Go.bits .and .i64 a0 15)))) = false := decide_eq_false c38
                          clear c38
                          obtain rfl := Option.some.inj H
                          go_wp2
                          go_ret
                          exact ⟨by first | rfl | (simp [errW_none, errW_some] <;> rfl) | (simp [*, errW_none, errW_some] <;> rfl), by repeat (first | (with_reducible first | exact HB.out | apply below_alloc | apply pw_below_drewN | apply below_drew1) | exact HB.out)⟩

/-- THE ONE PURE STATEMENT of ferrulelaw11_GraphLines: yours. -/
def ferrulelaw11_GraphLines.Pure : Prop := ∀ (a0 : Int) (a1 : Int) (a2 : Int), (Lit.int .i64 a0).wf = true → (Lit.int .i64 a1).wf = true → (Lit.int .i64 a2).wf = true → ∃ k, ferrulelaw11_GraphLines.f k a0 a1 a2 = some true
theorem ferrulelaw11_GraphLines.walk (P : ferrulelaw11_GraphLines.Pure) (a0 : Int) (a1 : Int) (a2 : Int) (w : World) (w0 : (Lit.int .i64 a0).wf = true) (w1 : (Lit.int .i64 a1).wf = true) (w2 : (Lit.int .i64 a2).wf = true) :
    Calls Try.prog 7 #[.int .i64 a0, .int .i64 a1, .int .i64 a2] w fun e w' => e = .returned (.bool true) ∧ Below w.heap.size w w' := by
  obtain ⟨k, h⟩ := P a0 a1 a2 w0 w1 w2
  refine (ferrulelaw11_GraphLines.calls k a0 a1 a2 true w h).mono ?_
  rintro e w' ⟨rfl, hd⟩
  exact ⟨rfl, hd⟩

end Go.Proofs.Ytafjbebbmfihaaa.P
