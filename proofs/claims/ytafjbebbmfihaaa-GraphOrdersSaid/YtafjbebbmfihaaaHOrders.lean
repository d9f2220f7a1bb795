/- ferrulelaw11.GraphOrders as one Lean function, and what a call does. Printed, then mended by hand at one make. -/
import Derived.Test.YtafjbebbmfihaaaPx0
import Derived.Test.YtafjbebbmfihaaaHDoms
import Derived.Test.YtafjbebbmfihaaaHOrder
import Derived.Test.YtafjbebbmfihaaaHReach
import Derived.Test.YtafjbebbmfihaaaPx1
namespace Go.Proofs.Ytafjbebbmfihaaa.P
open Go.RowKit Go.Proofs.YtafjbebbmfihaaaW.PrintWords Go.Proofs.YtafjbebbmfihaaaW.PrintLast Go.Proofs.YtafjbebbmfihaaaW.PrintMore
attribute [local go_sem] max2_int min2_int max_two min_two max_three min_three max_four min_four   -- for this text's walks alone
set_option linter.unusedVariables false
set_option linter.unusedSimpArgs false

/-! ### ferrulelaw11_GraphOrders: function 9 -/
mutual
def ferrulelaw11_GraphOrders.j0 : Nat → Int → List Int → List Bool → List Int → Bool → Option (Bool)
  | 0, _, _, _, _, _ => none
  | k + 1, x0, x5, x6, x7, x54 => if x54 = true then (some false) else (if 0 ≤ x0 then (if (x0 : Int).toNat ≤ 35184372088832 then (ferrulelaw11_GraphOrders.l0 k x0 x5 x6 x7 (List.replicate (x0 : Int).toNat 0) 0 0) else (none)) else (none))
def ferrulelaw11_GraphOrders.l0 : Nat → Int → List Int → List Bool → List Int → List Int → Int → Int → Option (Bool)
  | 0, _, _, _, _, _, _, _ => none
  | k + 1, x0, x5, x6, x7, x8, x9, x10 => if x10 < (x5.length : Int) then (if 0 ≤ x10 then (if (rd x5 x10) < 0 then (some false) else (if (rd x5 x10) ≥ x0 then (some false) else (if 0 ≤ (rd x5 x10) then (if (rd x5 x10) < (x8.length : Int) then (if (rd x8 (rd x5 x10)) = 0 then (if (rd x5 x10) < (x6.length : Int) then (if (rdOf false x6 (rd x5 x10) = true) then (ferrulelaw11_GraphOrders.l0 k x0 x5 x6 x7 (x8.set ((rd x5 x10) : Int).toNat (wrap64 (x10 + 1))) x9 (wrap64 (x10 + 1))) else (some false)) else (none)) else (some false)) else (none)) else (none)))) else (none)) else (ferrulelaw11_GraphOrders.l1 k x0 x5 x6 x7 x8 x9 0)
def ferrulelaw11_GraphOrders.l1 : Nat → Int → List Int → List Bool → List Int → List Int → Int → Int → Option (Bool)
  | 0, _, _, _, _, _, _, _ => none
  | k + 1, x0, x5, x6, x7, x8, x9, x12 => if x12 < x0 then (if 0 ≤ x12 then (if x12 < (x6.length : Int) then (if rdOf false x6 x12 = true then (if x12 > 0 then (if x12 < (x7.length : Int) then (if (rd x7 x12) < 0 then (some false) else (if 0 ≤ (rd x7 x12) then (if (rd x7 x12) < (x8.length : Int) then (if x12 < (x8.length : Int) then (if (rd x8 (rd x7 x12)) ≥ (rd x8 x12) then (some false) else (ferrulelaw11_GraphOrders.l1 k x0 x5 x6 x7 x8 (wrap64 (x9 + 1)) (wrap64 (x12 + 1)))) else (none)) else (none)) else (none))) else (none)) else (ferrulelaw11_GraphOrders.l1 k x0 x5 x6 x7 x8 (wrap64 (x9 + 1)) (wrap64 (x12 + 1)))) else (if x12 < (x7.length : Int) then (if (rd x7 x12) = (-1) then (ferrulelaw11_GraphOrders.l1 k x0 x5 x6 x7 x8 x9 (wrap64 (x12 + 1))) else (some false)) else (none))) else (none)) else (none)) else (some (x9 == (x5.length : Int)))
end
def ferrulelaw11_GraphOrders.f (k : Nat) (a0 : Int) (l1 : List (List Int)) : Option (Bool) := (ferrulelaw11_few.f k l1).bind fun t362 => (if t362 = true then ((graph_Order.f k (wrap64 (1 + (Go.bits .and .i64 a0 31))) l1).bind fun t363 => ((graph_Reach.f k (wrap64 (1 + (Go.bits .and .i64 a0 31))) l1).bind fun t366 => ((graph_Doms.f k (wrap64 (1 + (Go.bits .and .i64 a0 31))) l1).bind fun t369 => (if (t363.length : Int) = 0 then (ferrulelaw11_GraphOrders.j0 k (wrap64 (1 + (Go.bits .and .i64 a0 31))) t363 t366 t369 true) else (if 0 < (t363.length : Int) then (if (rd t363 0) = 0 then (if (t366.length : Int) = (wrap64 (1 + (Go.bits .and .i64 a0 31))) then (if (t369.length : Int) = (wrap64 (1 + (Go.bits .and .i64 a0 31))) then (if 0 < (t369.length : Int) then (ferrulelaw11_GraphOrders.j0 k (wrap64 (1 + (Go.bits .and .i64 a0 31))) t363 t366 t369 ((rd t369 0) != (-1))) else (none)) else (ferrulelaw11_GraphOrders.j0 k (wrap64 (1 + (Go.bits .and .i64 a0 31))) t363 t366 t369 true)) else (ferrulelaw11_GraphOrders.j0 k (wrap64 (1 + (Go.bits .and .i64 a0 31))) t363 t366 t369 true)) else (ferrulelaw11_GraphOrders.j0 k (wrap64 (1 + (Go.bits .and .i64 a0 31))) t363 t366 t369 true)) else (none)))))) else (some true))
theorem ferrulelaw11_GraphOrders.mono_l : ∀ k, (∀ y0 y1 y2 y3 y4, LeO (ferrulelaw11_GraphOrders.j0 k y0 y1 y2 y3 y4) (ferrulelaw11_GraphOrders.j0 (k + 1) y0 y1 y2 y3 y4)) ∧ (∀ y0 y1 y2 y3 y4 y5 y6, LeO (ferrulelaw11_GraphOrders.l0 k y0 y1 y2 y3 y4 y5 y6) (ferrulelaw11_GraphOrders.l0 (k + 1) y0 y1 y2 y3 y4 y5 y6)) ∧ (∀ y0 y1 y2 y3 y4 y5 y6, LeO (ferrulelaw11_GraphOrders.l1 k y0 y1 y2 y3 y4 y5 y6) (ferrulelaw11_GraphOrders.l1 (k + 1) y0 y1 y2 y3 y4 y5 y6))
  | 0 => ⟨fun _ _ _ _ _ r h => by simp [ferrulelaw11_GraphOrders.j0] at h, fun _ _ _ _ _ _ _ r h => by simp [ferrulelaw11_GraphOrders.l0] at h, fun _ _ _ _ _ _ _ r h => by simp [ferrulelaw11_GraphOrders.l1] at h⟩
  | k + 1 => by
    obtain ⟨ih0, ih1, ih2⟩ := ferrulelaw11_GraphOrders.mono_l k
    refine ⟨?_, ?_, ?_⟩
    · intro y0 y1 y2 y3 y4
      unfold ferrulelaw11_GraphOrders.j0
      repeat' first
      | (with_reducible exact ih0 _ _ _ _ _)
      | (with_reducible exact ih1 _ _ _ _ _ _ _)
      | (with_reducible exact ih2 _ _ _ _ _ _ _)
      | (with_reducible exact ferrulelaw11_few.mono _ _)
      | (with_reducible exact graph_Doms.mono _ _ _)
      | (with_reducible exact graph_Order.mono _ _ _)
      | (with_reducible exact graph_Reach.mono _ _ _)
      | (with_reducible exact LeO.refl _)
      | (with_reducible exact LeO.none _)
      | (with_reducible refine LeO.ite ?_ ?_)
      | (with_reducible refine LeO.bind ?_ (fun _ => ?_))
      | exact ih0 _ _ _ _ _
      | exact ih1 _ _ _ _ _ _ _
      | exact ih2 _ _ _ _ _ _ _
      | exact ferrulelaw11_few.mono _ _
      | exact graph_Doms.mono _ _ _
      | exact graph_Order.mono _ _ _
      | exact graph_Reach.mono _ _ _
      | exact LeO.none _
      | refine LeO.ite ?_ ?_
      | refine LeO.bind ?_ (fun _ => ?_)
    · intro y0 y1 y2 y3 y4 y5 y6
      unfold ferrulelaw11_GraphOrders.l0
      repeat' first
      | (with_reducible exact ih0 _ _ _ _ _)
      | (with_reducible exact ih1 _ _ _ _ _ _ _)
      | (with_reducible exact ih2 _ _ _ _ _ _ _)
      | (with_reducible exact ferrulelaw11_few.mono _ _)
      | (with_reducible exact graph_Doms.mono _ _ _)
      | (with_reducible exact graph_Order.mono _ _ _)
      | (with_reducible exact graph_Reach.mono _ _ _)
      | (with_reducible exact LeO.refl _)
      | (with_reducible exact LeO.none _)
      | (with_reducible refine LeO.ite ?_ ?_)
      | (with_reducible refine LeO.bind ?_ (fun _ => ?_))
      | exact ih0 _ _ _ _ _
      | exact ih1 _ _ _ _ _ _ _
      | exact ih2 _ _ _ _ _ _ _
      | exact ferrulelaw11_few.mono _ _
      | exact graph_Doms.mono _ _ _
      | exact graph_Order.mono _ _ _
      | exact graph_Reach.mono _ _ _
      | exact LeO.none _
      | refine LeO.ite ?_ ?_
      | refine LeO.bind ?_ (fun _ => ?_)
    · intro y0 y1 y2 y3 y4 y5 y6
      unfold ferrulelaw11_GraphOrders.l1
      repeat' first
      | (with_reducible exact ih0 _ _ _ _ _)
      | (with_reducible exact ih1 _ _ _ _ _ _ _)
      | (with_reducible exact ih2 _ _ _ _ _ _ _)
      | (with_reducible exact ferrulelaw11_few.mono _ _)
      | (with_reducible exact graph_Doms.mono _ _ _)
      | (with_reducible exact graph_Order.mono _ _ _)
      | (with_reducible exact graph_Reach.mono _ _ _)
      | (with_reducible exact LeO.refl _)
      | (with_reducible exact LeO.none _)
      | (with_reducible refine LeO.ite ?_ ?_)
      | (with_reducible refine LeO.bind ?_ (fun _ => ?_))
      | exact ih0 _ _ _ _ _
      | exact ih1 _ _ _ _ _ _ _
      | exact ih2 _ _ _ _ _ _ _
      | exact ferrulelaw11_few.mono _ _
      | exact graph_Doms.mono _ _ _
      | exact graph_Order.mono _ _ _
      | exact graph_Reach.mono _ _ _
      | exact LeO.none _
      | refine LeO.ite ?_ ?_
      | refine LeO.bind ?_ (fun _ => ?_)
theorem ferrulelaw11_GraphOrders.mono : ∀ a0 a1 k, LeO (ferrulelaw11_GraphOrders.f k a0 a1) (ferrulelaw11_GraphOrders.f (k + 1) a0 a1) := by
  intro a0 a1 k
  obtain ⟨ih0, ih1, ih2⟩ := ferrulelaw11_GraphOrders.mono_l k
  unfold ferrulelaw11_GraphOrders.f
  repeat' first
      | (with_reducible exact ih0 _ _ _ _ _)
      | (with_reducible exact ih1 _ _ _ _ _ _ _)
      | (with_reducible exact ih2 _ _ _ _ _ _ _)
      | (with_reducible exact ferrulelaw11_few.mono _ _)
      | (with_reducible exact graph_Doms.mono _ _ _)
      | (with_reducible exact graph_Order.mono _ _ _)
      | (with_reducible exact graph_Reach.mono _ _ _)
      | (with_reducible exact LeO.refl _)
      | (with_reducible exact LeO.none _)
      | (with_reducible refine LeO.ite ?_ ?_)
      | (with_reducible refine LeO.bind ?_ (fun _ => ?_))
      | exact ih0 _ _ _ _ _
      | exact ih1 _ _ _ _ _ _ _
      | exact ih2 _ _ _ _ _ _ _
      | exact ferrulelaw11_few.mono _ _
      | exact graph_Doms.mono _ _ _
      | exact graph_Order.mono _ _ _
      | exact graph_Reach.mono _ _ _
      | exact LeO.none _
      | refine LeO.ite ?_ ?_
      | refine LeO.bind ?_ (fun _ => ?_)
set_option maxHeartbeats 8000000 in
set_option maxRecDepth 100000 in
theorem ferrulelaw11_GraphOrders.calls (k : Nat) (a0 : Int) (A1 : Option Addr) (c1 : Nat) (l1 : List (List Int)) (r : Bool) (w : World) (hr1 : Kd.C (Kd.slice 3 (Kd.int .i64)) w A1 l1.length l1) (hc1 : l1.length ≤ c1) (h : ferrulelaw11_GraphOrders.f k a0 l1 = some r) :
    Calls Try.prog 9 #[.int .i64 a0, .slice A1 l1.length c1] w fun e w' => e = .returned (.bool r) ∧ Below w.heap.size w w' := by
  have HR1 := Aside0.mk hr1
  have HC1 := Aside0.mk hc1
  clear hr1 hc1
  have HB := Aside0.mk (Below.refl w.heap.size w)
  have H : ((ferrulelaw11_few.f k l1).bind fun t362 => (if t362 = true then ((graph_Order.f k (wrap64 (1 + (Go.bits .and .i64 a0 31))) l1).bind fun t363 => ((graph_Reach.f k (wrap64 (1 + (Go.bits .and .i64 a0 31))) l1).bind fun t366 => ((graph_Doms.f k (wrap64 (1 + (Go.bits .and .i64 a0 31))) l1).bind fun t369 => (if (t363.length : Int) = 0 then (ferrulelaw11_GraphOrders.j0 k (wrap64 (1 + (Go.bits .and .i64 a0 31))) t363 t366 t369 true) else (if 0 < (t363.length : Int) then (if (rd t363 0) = 0 then (if (t366.length : Int) = (wrap64 (1 + (Go.bits .and .i64 a0 31))) then (if (t369.length : Int) = (wrap64 (1 + (Go.bits .and .i64 a0 31))) then (if 0 < (t369.length : Int) then (ferrulelaw11_GraphOrders.j0 k (wrap64 (1 + (Go.bits .and .i64 a0 31))) t363 t366 t369 ((rd t369 0) != (-1))) else (none)) else (ferrulelaw11_GraphOrders.j0 k (wrap64 (1 + (Go.bits .and .i64 a0 31))) t363 t366 t369 true)) else (ferrulelaw11_GraphOrders.j0 k (wrap64 (1 + (Go.bits .and .i64 a0 31))) t363 t366 t369 true)) else (ferrulelaw11_GraphOrders.j0 k (wrap64 (1 + (Go.bits .and .i64 a0 31))) t363 t366 t369 true)) else (none)))))) else (some true))) = some r := h
  clear h
  replace H := Option.bind_eq_some_iff.mp H
  obtain ⟨t362, A30, H⟩ := H
  replace H : (if t362 = true then ((graph_Order.f k (wrap64 (1 + (Go.bits .and .i64 a0 31))) l1).bind fun t363 => ((graph_Reach.f k (wrap64 (1 + (Go.bits .and .i64 a0 31))) l1).bind fun t366 => ((graph_Doms.f k (wrap64 (1 + (Go.bits .and .i64 a0 31))) l1).bind fun t369 => (if (t363.length : Int) = 0 then (ferrulelaw11_GraphOrders.j0 k (wrap64 (1 + (Go.bits .and .i64 a0 31))) t363 t366 t369 true) else (if 0 < (t363.length : Int) then (if (rd t363 0) = 0 then (if (t366.length : Int) = (wrap64 (1 + (Go.bits .and .i64 a0 31))) then (if (t369.length : Int) = (wrap64 (1 + (Go.bits .and .i64 a0 31))) then (if 0 < (t369.length : Int) then (ferrulelaw11_GraphOrders.j0 k (wrap64 (1 + (Go.bits .and .i64 a0 31))) t363 t366 t369 ((rd t369 0) != (-1))) else (none)) else (ferrulelaw11_GraphOrders.j0 k (wrap64 (1 + (Go.bits .and .i64 a0 31))) t363 t366 t369 true)) else (ferrulelaw11_GraphOrders.j0 k (wrap64 (1 + (Go.bits .and .i64 a0 31))) t363 t366 t369 true)) else (ferrulelaw11_GraphOrders.j0 k (wrap64 (1 + (Go.bits .and .i64 a0 31))) t363 t366 t369 true)) else (none)))))) else (some true)) = some r := H
  have A3 := Aside0.mk A30
  clear A30
  by_cases c4 : t362 = true
  · subst c4
    have H1 : ((graph_Order.f k (wrap64 (1 + (Go.bits .and .i64 a0 31))) l1).bind fun t363 => ((graph_Reach.f k (wrap64 (1 + (Go.bits .and .i64 a0 31))) l1).bind fun t366 => ((graph_Doms.f k (wrap64 (1 + (Go.bits .and .i64 a0 31))) l1).bind fun t369 => (if (t363.length : Int) = 0 then (ferrulelaw11_GraphOrders.j0 k (wrap64 (1 + (Go.bits .and .i64 a0 31))) t363 t366 t369 true) else (if 0 < (t363.length : Int) then (if (rd t363 0) = 0 then (if (t366.length : Int) = (wrap64 (1 + (Go.bits .and .i64 a0 31))) then (if (t369.length : Int) = (wrap64 (1 + (Go.bits .and .i64 a0 31))) then (if 0 < (t369.length : Int) then (ferrulelaw11_GraphOrders.j0 k (wrap64 (1 + (Go.bits .and .i64 a0 31))) t363 t366 t369 ((rd t369 0) != (-1))) else (none)) else (ferrulelaw11_GraphOrders.j0 k (wrap64 (1 + (Go.bits .and .i64 a0 31))) t363 t366 t369 true)) else (ferrulelaw11_GraphOrders.j0 k (wrap64 (1 + (Go.bits .and .i64 a0 31))) t363 t366 t369 true)) else (ferrulelaw11_GraphOrders.j0 k (wrap64 (1 + (Go.bits .and .i64 a0 31))) t363 t366 t369 true)) else (none)))))) = some r := by rw [if_pos rfl] at H; exact H
    clear H
    have H := H1
    clear H1
    replace H := Option.bind_eq_some_iff.mp H
    obtain ⟨t363, A50, H⟩ := H
    replace H : ((graph_Reach.f k (wrap64 (1 + (Go.bits .and .i64 a0 31))) l1).bind fun t366 => ((graph_Doms.f k (wrap64 (1 + (Go.bits .and .i64 a0 31))) l1).bind fun t369 => (if (t363.length : Int) = 0 then (ferrulelaw11_GraphOrders.j0 k (wrap64 (1 + (Go.bits .and .i64 a0 31))) t363 t366 t369 true) else (if 0 < (t363.length : Int) then (if (rd t363 0) = 0 then (if (t366.length : Int) = (wrap64 (1 + (Go.bits .and .i64 a0 31))) then (if (t369.length : Int) = (wrap64 (1 + (Go.bits .and .i64 a0 31))) then (if 0 < (t369.length : Int) then (ferrulelaw11_GraphOrders.j0 k (wrap64 (1 + (Go.bits .and .i64 a0 31))) t363 t366 t369 ((rd t369 0) != (-1))) else (none)) else (ferrulelaw11_GraphOrders.j0 k (wrap64 (1 + (Go.bits .and .i64 a0 31))) t363 t366 t369 true)) else (ferrulelaw11_GraphOrders.j0 k (wrap64 (1 + (Go.bits .and .i64 a0 31))) t363 t366 t369 true)) else (ferrulelaw11_GraphOrders.j0 k (wrap64 (1 + (Go.bits .and .i64 a0 31))) t363 t366 t369 true)) else (none))))) = some r := H
    have A5 := Aside0.mk A50
    clear A50
    replace H := Option.bind_eq_some_iff.mp H
    obtain ⟨t366, A60, H⟩ := H
    replace H : ((graph_Doms.f k (wrap64 (1 + (Go.bits .and .i64 a0 31))) l1).bind fun t369 => (if (t363.length : Int) = 0 then (ferrulelaw11_GraphOrders.j0 k (wrap64 (1 + (Go.bits .and .i64 a0 31))) t363 t366 t369 true) else (if 0 < (t363.length : Int) then (if (rd t363 0) = 0 then (if (t366.length : Int) = (wrap64 (1 + (Go.bits .and .i64 a0 31))) then (if (t369.length : Int) = (wrap64 (1 + (Go.bits .and .i64 a0 31))) then (if 0 < (t369.length : Int) then (ferrulelaw11_GraphOrders.j0 k (wrap64 (1 + (Go.bits .and .i64 a0 31))) t363 t366 t369 ((rd t369 0) != (-1))) else (none)) else (ferrulelaw11_GraphOrders.j0 k (wrap64 (1 + (Go.bits .and .i64 a0 31))) t363 t366 t369 true)) else (ferrulelaw11_GraphOrders.j0 k (wrap64 (1 + (Go.bits .and .i64 a0 31))) t363 t366 t369 true)) else (ferrulelaw11_GraphOrders.j0 k (wrap64 (1 + (Go.bits .and .i64 a0 31))) t363 t366 t369 true)) else (none)))) = some r := H
    have A6 := Aside0.mk A60
    clear A60
    replace H := Option.bind_eq_some_iff.mp H
    obtain ⟨t369, A70, H⟩ := H
    replace H : (if (t363.length : Int) = 0 then (ferrulelaw11_GraphOrders.j0 k (wrap64 (1 + (Go.bits .and .i64 a0 31))) t363 t366 t369 true) else (if 0 < (t363.length : Int) then (if (rd t363 0) = 0 then (if (t366.length : Int) = (wrap64 (1 + (Go.bits .and .i64 a0 31))) then (if (t369.length : Int) = (wrap64 (1 + (Go.bits .and .i64 a0 31))) then (if 0 < (t369.length : Int) then (ferrulelaw11_GraphOrders.j0 k (wrap64 (1 + (Go.bits .and .i64 a0 31))) t363 t366 t369 ((rd t369 0) != (-1))) else (none)) else (ferrulelaw11_GraphOrders.j0 k (wrap64 (1 + (Go.bits .and .i64 a0 31))) t363 t366 t369 true)) else (ferrulelaw11_GraphOrders.j0 k (wrap64 (1 + (Go.bits .and .i64 a0 31))) t363 t366 t369 true)) else (ferrulelaw11_GraphOrders.j0 k (wrap64 (1 + (Go.bits .and .i64 a0 31))) t363 t366 t369 true)) else (none))) = some r := H
    have A7 := Aside0.mk A70
    clear A70
    have HC8 := Aside0.mk H
    clear H
    go_enter Try.func9, Try.ntmps9
    go_upto_region 7 with (first | (go_at_call 10; (with_reducible refine (ferrulelaw11_few.calls k _ _ l1 true _ ?side1 ?side2 A3.out).mono ?_); (case side1 => repeat (first | exact HR1.out | (with_reducible refine Kd.C_alloc ?_ _) | (with_reducible refine Kd.C_drewN ?_ _) | (with_reducible refine Kd.C_drew ?_))); (case side2 => exact HC1.out); rintro e w' ⟨rfl, ⟨nd, rfl⟩⟩; (try first | exact ⟨rfl, _, World.drewN_drewN _ _ _⟩ | exact ⟨rfl, _, Eq.trans (World.drewN_drewN _ _ _) (congrArg (World.drewN _) (Nat.add_assoc _ _ _))⟩)) | (go_at_call 19; (with_reducible refine (graph_Order.calls k (wrap64 (1 + (Go.bits .and .i64 a0 31))) _ _ l1 t363 _ ?side1 ?side2 A5.out).mono ?_); (case side1 => repeat (first | exact HR1.out | (with_reducible refine Kd.C_alloc ?_ _) | (with_reducible refine Kd.C_drewN ?_ _) | (with_reducible refine Kd.C_drew ?_))); (case side2 => exact HC1.out); rintro e w9 ⟨v364, rfl, ho0, hb⟩; have n0_ := Aside0.mk (Kd.R_lower ho0 (below_size (by repeat (first | (with_reducible first | exact HB.out | apply below_alloc | apply pw_below_drewN | apply below_drew1) | exact HB.out)))); have n1_ := Aside0.mk (below_step (by repeat (first | (with_reducible first | exact HB.out | apply below_alloc | apply pw_below_drewN | apply below_drew1) | exact HB.out)) hb); clear HB; have HO365 := n0_; have HB := n1_; clear n0_ n1_; (try clear hb); (try clear hb2); (try clear hk); (try clear hi); (try clear ho0)) | (go_at_call 11; (with_reducible refine (graph_Reach.calls k (wrap64 (1 + (Go.bits .and .i64 a0 31))) _ _ l1 t366 _ ?side1 ?side2 A6.out).mono ?_); (case side1 => repeat (first | exact (Kd.C_below HR1.out HB.out) | (with_reducible refine Kd.C_alloc ?_ _) | (with_reducible refine Kd.C_drewN ?_ _) | (with_reducible refine Kd.C_drew ?_))); (case side2 => exact HC1.out); rintro e w10 ⟨v367, rfl, ho0, hb⟩; have n0_ := Aside0.mk (Kd.R_below (by (with_reducible repeat (first | apply Kd.R_alloc | apply Kd.R_drewN | apply Kd.R_drew)); exact HO365.out) hb); have n1_ := Aside0.mk (Kd.R_lower ho0 (below_size (by repeat (first | (with_reducible first | exact HB.out | apply below_alloc | apply pw_below_drewN | apply below_drew1) | exact HB.out)))); have n2_ := Aside0.mk (below_step (by repeat (first | (with_reducible first | exact HB.out | apply below_alloc | apply pw_below_drewN | apply below_drew1) | exact HB.out)) hb); clear HO365; clear HB; have HO365 := n0_; have HO368 := n1_; have HB := n2_; clear n0_ n1_ n2_; (try clear hb); (try clear hb2); (try clear hk); (try clear hi); (try clear ho0)) | (go_at_call 18; (with_reducible refine (graph_Doms.calls k (wrap64 (1 + (Go.bits .and .i64 a0 31))) _ _ l1 t369 _ ?side1 ?side2 A7.out).mono ?_); (case side1 => repeat (first | exact (Kd.C_below HR1.out HB.out) | (with_reducible refine Kd.C_alloc ?_ _) | (with_reducible refine Kd.C_drewN ?_ _) | (with_reducible refine Kd.C_drew ?_))); (case side2 => exact HC1.out); rintro e w11 ⟨v370, rfl, ho0, hb⟩; have n0_ := Aside0.mk (Kd.R_elder' (by (with_reducible repeat (first | apply Kd.R_alloc | apply Kd.R_drewN | apply Kd.R_drew)); exact HO365.out) (Kd.R_base ho0) hb); have n1_ := Aside0.mk (Kd.R_below (by (with_reducible repeat (first | apply Kd.R_alloc | apply Kd.R_drewN | apply Kd.R_drew)); exact HO368.out) hb); have n2_ := Aside0.mk (Kd.R_lower (Kd.R_new' ho0 (Kd.R_lt (by (with_reducible repeat (first | apply Kd.R_alloc | apply Kd.R_drewN | apply Kd.R_drew)); exact HO365.out))) (below_size (by repeat (first | (with_reducible first | exact HB.out | apply below_alloc | apply pw_below_drewN | apply below_drew1) | exact HB.out)))); have n3_ := Aside0.mk (below_step (by repeat (first | (with_reducible first | exact HB.out | apply below_alloc | apply pw_below_drewN | apply below_drew1) | exact HB.out)) hb); clear HO365; clear HO368; clear HB; have HO365 := n0_; have HO368 := n1_; have HO371 := n2_; have HB := n3_; clear n0_ n1_ n2_ n3_; (try clear hb); (try clear hb2); (try clear hk); (try clear hi); (try clear ho0)))
    repeat (go_quiet (first | (go_at_call 10; (with_reducible refine (ferrulelaw11_few.calls k _ _ l1 true _ ?side1 ?side2 A3.out).mono ?_); (case side1 => repeat (first | exact HR1.out | (with_reducible refine Kd.C_alloc ?_ _) | (with_reducible refine Kd.C_drewN ?_ _) | (with_reducible refine Kd.C_drew ?_))); (case side2 => exact HC1.out); rintro e w' ⟨rfl, ⟨nd, rfl⟩⟩; (try first | exact ⟨rfl, _, World.drewN_drewN _ _ _⟩ | exact ⟨rfl, _, Eq.trans (World.drewN_drewN _ _ _) (congrArg (World.drewN _) (Nat.add_assoc _ _ _))⟩)) | (go_at_call 19; (with_reducible refine (graph_Order.calls k (wrap64 (1 + (Go.bits .and .i64 a0 31))) _ _ l1 t363 _ ?side1 ?side2 A5.out).mono ?_); (case side1 => repeat (first | exact HR1.out | (with_reducible refine Kd.C_alloc ?_ _) | (with_reducible refine Kd.C_drewN ?_ _) | (with_reducible refine Kd.C_drew ?_))); (case side2 => exact HC1.out); rintro e w9 ⟨v364, rfl, ho0, hb⟩; have n0_ := Aside0.mk (Kd.R_lower ho0 (below_size (by repeat (first | (with_reducible first | exact HB.out | apply below_alloc | apply pw_below_drewN | apply below_drew1) | exact HB.out)))); have n1_ := Aside0.mk (below_step (by repeat (first | (with_reducible first | exact HB.out | apply below_alloc | apply pw_below_drewN | apply below_drew1) | exact HB.out)) hb); clear HB; have HO365 := n0_; have HB := n1_; clear n0_ n1_; (try clear hb); (try clear hb2); (try clear hk); (try clear hi); (try clear ho0)) | (go_at_call 11; (with_reducible refine (graph_Reach.calls k (wrap64 (1 + (Go.bits .and .i64 a0 31))) _ _ l1 t366 _ ?side1 ?side2 A6.out).mono ?_); (case side1 => repeat (first | exact (Kd.C_below HR1.out HB.out) | (with_reducible refine Kd.C_alloc ?_ _) | (with_reducible refine Kd.C_drewN ?_ _) | (with_reducible refine Kd.C_drew ?_))); (case side2 => exact HC1.out); rintro e w10 ⟨v367, rfl, ho0, hb⟩; have n0_ := Aside0.mk (Kd.R_below (by (with_reducible repeat (first | apply Kd.R_alloc | apply Kd.R_drewN | apply Kd.R_drew)); exact HO365.out) hb); have n1_ := Aside0.mk (Kd.R_lower ho0 (below_size (by repeat (first | (with_reducible first | exact HB.out | apply below_alloc | apply pw_below_drewN | apply below_drew1) | exact HB.out)))); have n2_ := Aside0.mk (below_step (by repeat (first | (with_reducible first | exact HB.out | apply below_alloc | apply pw_below_drewN | apply below_drew1) | exact HB.out)) hb); clear HO365; clear HB; have HO365 := n0_; have HO368 := n1_; have HB := n2_; clear n0_ n1_ n2_; (try clear hb); (try clear hb2); (try clear hk); (try clear hi); (try clear ho0)) | (go_at_call 18; (with_reducible refine (graph_Doms.calls k (wrap64 (1 + (Go.bits .and .i64 a0 31))) _ _ l1 t369 _ ?side1 ?side2 A7.out).mono ?_); (case side1 => repeat (first | exact (Kd.C_below HR1.out HB.out) | (with_reducible refine Kd.C_alloc ?_ _) | (with_reducible refine Kd.C_drewN ?_ _) | (with_reducible refine Kd.C_drew ?_))); (case side2 => exact HC1.out); rintro e w11 ⟨v370, rfl, ho0, hb⟩; have n0_ := Aside0.mk (Kd.R_elder' (by (with_reducible repeat (first | apply Kd.R_alloc | apply Kd.R_drewN | apply Kd.R_drew)); exact HO365.out) (Kd.R_base ho0) hb); have n1_ := Aside0.mk (Kd.R_below (by (with_reducible repeat (first | apply Kd.R_alloc | apply Kd.R_drewN | apply Kd.R_drew)); exact HO368.out) hb); have n2_ := Aside0.mk (Kd.R_lower (Kd.R_new' ho0 (Kd.R_lt (by (with_reducible repeat (first | apply Kd.R_alloc | apply Kd.R_drewN | apply Kd.R_drew)); exact HO365.out))) (below_size (by repeat (first | (with_reducible first | exact HB.out | apply below_alloc | apply pw_below_drewN | apply below_drew1) | exact HB.out)))); have n3_ := Aside0.mk (below_step (by repeat (first | (with_reducible first | exact HB.out | apply below_alloc | apply pw_below_drewN | apply below_drew1) | exact HB.out)) hb); clear HO365; clear HO368; clear HB; have HO365 := n0_; have HO368 := n1_; have HO371 := n2_; have HB := n3_; clear n0_ n1_ n2_ n3_; (try clear hb); (try clear hb2); (try clear hk); (try clear hi); (try clear ho0))); go_upto_region 7 with (first | (go_at_call 10; (with_reducible refine (ferrulelaw11_few.calls k _ _ l1 true _ ?side1 ?side2 A3.out).mono ?_); (case side1 => repeat (first | exact HR1.out | (with_reducible refine Kd.C_alloc ?_ _) | (with_reducible refine Kd.C_drewN ?_ _) | (with_reducible refine Kd.C_drew ?_))); (case side2 => exact HC1.out); rintro e w' ⟨rfl, ⟨nd, rfl⟩⟩; (try first | exact ⟨rfl, _, World.drewN_drewN _ _ _⟩ | exact ⟨rfl, _, Eq.trans (World.drewN_drewN _ _ _) (congrArg (World.drewN _) (Nat.add_assoc _ _ _))⟩)) | (go_at_call 19; (with_reducible refine (graph_Order.calls k (wrap64 (1 + (Go.bits .and .i64 a0 31))) _ _ l1 t363 _ ?side1 ?side2 A5.out).mono ?_); (case side1 => repeat (first | exact HR1.out | (with_reducible refine Kd.C_alloc ?_ _) | (with_reducible refine Kd.C_drewN ?_ _) | (with_reducible refine Kd.C_drew ?_))); (case side2 => exact HC1.out); rintro e w9 ⟨v364, rfl, ho0, hb⟩; have n0_ := Aside0.mk (Kd.R_lower ho0 (below_size (by repeat (first | (with_reducible first | exact HB.out | apply below_alloc | apply pw_below_drewN | apply below_drew1) | exact HB.out)))); have n1_ := Aside0.mk (below_step (by repeat (first | (with_reducible first | exact HB.out | apply below_alloc | apply pw_below_drewN | apply below_drew1) | exact HB.out)) hb); clear HB; have HO365 := n0_; have HB := n1_; clear n0_ n1_; (try clear hb); (try clear hb2); (try clear hk); (try clear hi); (try clear ho0)) | (go_at_call 11; (with_reducible refine (graph_Reach.calls k (wrap64 (1 + (Go.bits .and .i64 a0 31))) _ _ l1 t366 _ ?side1 ?side2 A6.out).mono ?_); (case side1 => repeat (first | exact (Kd.C_below HR1.out HB.out) | (with_reducible refine Kd.C_alloc ?_ _) | (with_reducible refine Kd.C_drewN ?_ _) | (with_reducible refine Kd.C_drew ?_))); (case side2 => exact HC1.out); rintro e w10 ⟨v367, rfl, ho0, hb⟩; have n0_ := Aside0.mk (Kd.R_below (by (with_reducible repeat (first | apply Kd.R_alloc | apply Kd.R_drewN | apply Kd.R_drew)); exact HO365.out) hb); have n1_ := Aside0.mk (Kd.R_lower ho0 (below_size (by repeat (first | (with_reducible first | exact HB.out | apply below_alloc | apply pw_below_drewN | apply below_drew1) | exact HB.out)))); have n2_ := Aside0.mk (below_step (by repeat (first | (with_reducible first | exact HB.out | apply below_alloc | apply pw_below_drewN | apply below_drew1) | exact HB.out)) hb); clear HO365; clear HB; have HO365 := n0_; have HO368 := n1_; have HB := n2_; clear n0_ n1_ n2_; (try clear hb); (try clear hb2); (try clear hk); (try clear hi); (try clear ho0)) | (go_at_call 18; (with_reducible refine (graph_Doms.calls k (wrap64 (1 + (Go.bits .and .i64 a0 31))) _ _ l1 t369 _ ?side1 ?side2 A7.out).mono ?_); (case side1 => repeat (first | exact (Kd.C_below HR1.out HB.out) | (with_reducible refine Kd.C_alloc ?_ _) | (with_reducible refine Kd.C_drewN ?_ _) | (with_reducible refine Kd.C_drew ?_))); (case side2 => exact HC1.out); rintro e w11 ⟨v370, rfl, ho0, hb⟩; have n0_ := Aside0.mk (Kd.R_elder' (by (with_reducible repeat (first | apply Kd.R_alloc | apply Kd.R_drewN | apply Kd.R_drew)); exact HO365.out) (Kd.R_base ho0) hb); have n1_ := Aside0.mk (Kd.R_below (by (with_reducible repeat (first | apply Kd.R_alloc | apply Kd.R_drewN | apply Kd.R_drew)); exact HO368.out) hb); have n2_ := Aside0.mk (Kd.R_lower (Kd.R_new' ho0 (Kd.R_lt (by (with_reducible repeat (first | apply Kd.R_alloc | apply Kd.R_drewN | apply Kd.R_drew)); exact HO365.out))) (below_size (by repeat (first | (with_reducible first | exact HB.out | apply below_alloc | apply pw_below_drewN | apply below_drew1) | exact HB.out)))); have n3_ := Aside0.mk (below_step (by repeat (first | (with_reducible first | exact HB.out | apply below_alloc | apply pw_below_drewN | apply below_drew1) | exact HB.out)) hb); clear HO365; clear HO368; clear HB; have HO365 := n0_; have HO368 := n1_; have HO371 := n2_; have HB := n3_; clear n0_ n1_ n2_ n3_; (try clear hb); (try clear hb2); (try clear hk); (try clear hi); (try clear ho0))))
    (try simp only [Act.put, List.setIfInBounds_toArray, List.set_cons_zero, List.set_cons_succ])
    go_cut [54] (fun v54 wc => ∃ (kq : Nat) (x54_7 : Bool), v54 = .bool x54_7 ∧ Aside0 (ferrulelaw11_GraphOrders.j0 kq (wrap64 (1 + (Go.bits .and .i64 a0 31))) t363 t366 t369 x54_7 = some r) ∧ Aside0 (kq ≤ k) ∧ Aside0 (Kd.R (Kd.int .i64) 3 wc w.heap.size (fun k_ => some k_ ≠ (v370 : Value).ownBlock) v364 t363) ∧ Aside0 (Kd.R Kd.bool 4 wc w.heap.size (fun _ => True) v367 t366) ∧ Aside0 (Kd.R (Kd.int .i64) 3 wc w.heap.size (fun k_ => some k_ ≠ (v364 : Value).ownBlock) v370 t369) ∧ Aside0 (Below w.heap.size w wc))
    case first =>
      have H := HC8.out
      clear HC8
      by_cases c12 : (t363.length : Int) = 0
      · rw [if_pos c12] at H
        have c12b0 : ((t363.length : Int) == 0) = true := beq_iff_eq.mpr c12
        have c12b1 : ((t363.length : Int) != 0) = false := bne_eq_false_iff_eq.mpr c12
        clear c12
        (first | rw [c12b0] | (simp only [i64_w, i32_w]; rw [c12b0]) | skip)
        have H' := Aside0.mk H
        clear H
        obtain ⟨Ao13, co13, eo13⟩ := Kd.R_slice HO365.out
        subst eo13
        go_wp2
        repeat (go_quiet (fail); try go_wp2)
        go_meet
        case rel => exact ⟨_, (true), (by first | rfl | (simp; done) | (simp [*]; done)), H', ⟨by first | omega | exact Nat.le_refl _⟩, ⟨by (with_reducible repeat (first | apply Kd.R_alloc | apply Kd.R_drewN | apply Kd.R_drew)); exact Kd.R_mono HO365.out (fun _ hk => hk.2)⟩, ⟨by (with_reducible repeat (first | apply Kd.R_alloc | apply Kd.R_drewN | apply Kd.R_drew)); exact HO368.out⟩, ⟨by (with_reducible repeat (first | apply Kd.R_alloc | apply Kd.R_drewN | apply Kd.R_drew)); exact Kd.R_mono HO371.out (fun _ hk => hk.2)⟩, ⟨by repeat (first | (with_reducible first | exact HB.out | apply below_alloc | apply pw_below_drewN | apply below_drew1) | exact HB.out)⟩⟩
      · rw [if_neg c12] at H
        have c12b0 : ((t363.length : Int) == 0) = false := beq_eq_false_iff_ne.mpr c12
        have c12b1 : ((t363.length : Int) != 0) = true := bne_iff_ne.mpr c12
        have c12b2 : ¬ (t363 = []) := fun h_ => c12 (by rw [h_]; rfl)
        (first | rw [c12b0] | (simp only [i64_w, i32_w]; rw [c12b0]) | skip)
        by_cases c14 : 0 < (t363.length : Int)
        · rw [if_pos c14] at H
          have c14b0 : decide (0 < (t363.length : Int)) = true := decide_eq_true c14
          have c14b1 : decide (0 < t363.length) = true := decide_eq_true (by omega)
          clear c14
          by_cases c15 : (rd t363 0) = 0
          · rw [if_pos c15] at H
            have c15b0 : ((rd t363 0) == 0) = true := beq_iff_eq.mpr c15
            have c15b1 : ((rd t363 0) != 0) = false := bne_eq_false_iff_eq.mpr c15
            clear c15
            by_cases c16 : (t366.length : Int) = (wrap64 (1 + (Go.bits .and .i64 a0 31)))
            · rw [if_pos c16] at H
              have c16b0 : ((t366.length : Int) == (wrap64 (1 + (Go.bits .and .i64 a0 31)))) = true := beq_iff_eq.mpr c16
              have c16b1 : ((t366.length : Int) != (wrap64 (1 + (Go.bits .and .i64 a0 31)))) = false := bne_eq_false_iff_eq.mpr c16
              clear c16
              by_cases c17 : (t369.length : Int) = (wrap64 (1 + (Go.bits .and .i64 a0 31)))
              · rw [if_pos c17] at H
                have c17b0 : ((t369.length : Int) == (wrap64 (1 + (Go.bits .and .i64 a0 31)))) = true := beq_iff_eq.mpr c17
                have c17b1 : ((t369.length : Int) != (wrap64 (1 + (Go.bits .and .i64 a0 31)))) = false := bne_eq_false_iff_eq.mpr c17
                clear c17
                by_cases c18 : 0 < (t369.length : Int)
                · rw [if_pos c18] at H
                  have c18b0 : decide (0 < (t369.length : Int)) = true := decide_eq_true c18
                  have c18b1 : decide (0 < t369.length) = true := decide_eq_true (by omega)
                  clear c18
                  have H' := Aside0.mk H
                  clear H
                  obtain ⟨Ao19, co19, eo19⟩ := Kd.R_slice HO365.out
                  subst eo19
                  have p372 : 0 ≤ (0 : Int) := (by omega)
                  have q372 : 0 < (t363.length : Int) := of_decide_eq_true (by first | (with_reducible assumption) | assumption)
                  obtain ⟨ad372, e372, hx372_0⟩ := Kd.at_int (Kd.R_reads' HO365.out).2.2 0 p372 q372
                  cases e372
                  have qi372 : (0 < t363.length) = True := eq_true (by omega)
                  (try rw [show ((0 : Int)).toNat = 0 from rfl] at hx372_0)
                  (try rw [Addr.add_zero'] at hx372_0)
                  replace p372 := eq_true p372
                  replace q372 := eq_true q372
                  obtain ⟨Ao20, co20, eo20⟩ := Kd.R_slice HO368.out
                  subst eo20
                  obtain ⟨Ao21, co21, eo21⟩ := Kd.R_slice HO371.out
                  subst eo21
                  have p373 : 0 ≤ (0 : Int) := (by omega)
                  have q373 : 0 < (t369.length : Int) := of_decide_eq_true (by first | (with_reducible assumption) | assumption)
                  obtain ⟨ad373, e373, hx373_0⟩ := Kd.at_int (Kd.R_reads' HO371.out).2.2 0 p373 q373
                  cases e373
                  have qi373 : (0 < t369.length) = True := eq_true (by omega)
                  (try rw [show ((0 : Int)).toNat = 0 from rfl] at hx373_0)
                  (try rw [Addr.add_zero'] at hx373_0)
                  replace p373 := eq_true p373
                  replace q373 := eq_true q373
                  go_wp2
                  repeat (go_quiet (fail); try go_wp2)
                  go_meet
                  case rel => exact ⟨_, (((rd t369 0) != (-1))), (by first | rfl | (simp; done) | (simp [*]; done)), H', ⟨by first | omega | exact Nat.le_refl _⟩, ⟨by (with_reducible repeat (first | apply Kd.R_alloc | apply Kd.R_drewN | apply Kd.R_drew)); exact Kd.R_mono HO365.out (fun _ hk => hk.2)⟩, ⟨by (with_reducible repeat (first | apply Kd.R_alloc | apply Kd.R_drewN | apply Kd.R_drew)); exact HO368.out⟩, ⟨by (with_reducible repeat (first | apply Kd.R_alloc | apply Kd.R_drewN | apply Kd.R_drew)); exact Kd.R_mono HO371.out (fun _ hk => hk.2)⟩, ⟨by repeat (first | (with_reducible first | exact HB.out | apply below_alloc | apply pw_below_drewN | apply below_drew1) | exact HB.out)⟩⟩
                · rw [if_neg c18] at H
                  exact absurd H (by simp)
              · rw [if_neg c17] at H
                have c17b0 : ((t369.length : Int) == (wrap64 (1 + (Go.bits .and .i64 a0 31)))) = false := beq_eq_false_iff_ne.mpr c17
                have c17b1 : ((t369.length : Int) != (wrap64 (1 + (Go.bits .and .i64 a0 31)))) = true := bne_iff_ne.mpr c17
                have H' := Aside0.mk H
                clear H
                obtain ⟨Ao22, co22, eo22⟩ := Kd.R_slice HO365.out
                subst eo22
                have p372 : 0 ≤ (0 : Int) := (by omega)
                have q372 : 0 < (t363.length : Int) := of_decide_eq_true (by first | (with_reducible assumption) | assumption)
                obtain ⟨ad372, e372, hx372_0⟩ := Kd.at_int (Kd.R_reads' HO365.out).2.2 0 p372 q372
                cases e372
                have qi372 : (0 < t363.length) = True := eq_true (by omega)
                (try rw [show ((0 : Int)).toNat = 0 from rfl] at hx372_0)
                (try rw [Addr.add_zero'] at hx372_0)
                replace p372 := eq_true p372
                replace q372 := eq_true q372
                obtain ⟨Ao23, co23, eo23⟩ := Kd.R_slice HO368.out
                subst eo23
                obtain ⟨Ao24, co24, eo24⟩ := Kd.R_slice HO371.out
                subst eo24
                go_wp2
                repeat (go_quiet (fail); try go_wp2)
                go_meet
                case rel => exact ⟨_, (true), (by first | rfl | (simp; done) | (simp [*]; done)), H', ⟨by first | omega | exact Nat.le_refl _⟩, ⟨by (with_reducible repeat (first | apply Kd.R_alloc | apply Kd.R_drewN | apply Kd.R_drew)); exact Kd.R_mono HO365.out (fun _ hk => hk.2)⟩, ⟨by (with_reducible repeat (first | apply Kd.R_alloc | apply Kd.R_drewN | apply Kd.R_drew)); exact HO368.out⟩, ⟨by (with_reducible repeat (first | apply Kd.R_alloc | apply Kd.R_drewN | apply Kd.R_drew)); exact Kd.R_mono HO371.out (fun _ hk => hk.2)⟩, ⟨by repeat (first | (with_reducible first | exact HB.out | apply below_alloc | apply pw_below_drewN | apply below_drew1) | exact HB.out)⟩⟩
            · rw [if_neg c16] at H
              have c16b0 : ((t366.length : Int) == (wrap64 (1 + (Go.bits .and .i64 a0 31)))) = false := beq_eq_false_iff_ne.mpr c16
              have c16b1 : ((t366.length : Int) != (wrap64 (1 + (Go.bits .and .i64 a0 31)))) = true := bne_iff_ne.mpr c16
              have H' := Aside0.mk H
              clear H
              obtain ⟨Ao25, co25, eo25⟩ := Kd.R_slice HO365.out
              subst eo25
              have p372 : 0 ≤ (0 : Int) := (by omega)
              have q372 : 0 < (t363.length : Int) := of_decide_eq_true (by first | (with_reducible assumption) | assumption)
              obtain ⟨ad372, e372, hx372_0⟩ := Kd.at_int (Kd.R_reads' HO365.out).2.2 0 p372 q372
              cases e372
              have qi372 : (0 < t363.length) = True := eq_true (by omega)
              (try rw [show ((0 : Int)).toNat = 0 from rfl] at hx372_0)
              (try rw [Addr.add_zero'] at hx372_0)
              replace p372 := eq_true p372
              replace q372 := eq_true q372
              obtain ⟨Ao26, co26, eo26⟩ := Kd.R_slice HO368.out
              subst eo26
              go_wp2
              repeat (go_quiet (fail); try go_wp2)
              go_meet
              case rel => exact ⟨_, (true), (by first | rfl | (simp; done) | (simp [*]; done)), H', ⟨by first | omega | exact Nat.le_refl _⟩, ⟨by (with_reducible repeat (first | apply Kd.R_alloc | apply Kd.R_drewN | apply Kd.R_drew)); exact Kd.R_mono HO365.out (fun _ hk => hk.2)⟩, ⟨by (with_reducible repeat (first | apply Kd.R_alloc | apply Kd.R_drewN | apply Kd.R_drew)); exact HO368.out⟩, ⟨by (with_reducible repeat (first | apply Kd.R_alloc | apply Kd.R_drewN | apply Kd.R_drew)); exact Kd.R_mono HO371.out (fun _ hk => hk.2)⟩, ⟨by repeat (first | (with_reducible first | exact HB.out | apply below_alloc | apply pw_below_drewN | apply below_drew1) | exact HB.out)⟩⟩
          · rw [if_neg c15] at H
            have c15b0 : ((rd t363 0) == 0) = false := beq_eq_false_iff_ne.mpr c15
            have c15b1 : ((rd t363 0) != 0) = true := bne_iff_ne.mpr c15
            have H' := Aside0.mk H
            clear H
            obtain ⟨Ao27, co27, eo27⟩ := Kd.R_slice HO365.out
            subst eo27
            have p372 : 0 ≤ (0 : Int) := (by omega)
            have q372 : 0 < (t363.length : Int) := of_decide_eq_true (by first | (with_reducible assumption) | assumption)
            obtain ⟨ad372, e372, hx372_0⟩ := Kd.at_int (Kd.R_reads' HO365.out).2.2 0 p372 q372
            cases e372
            have qi372 : (0 < t363.length) = True := eq_true (by omega)
            (try rw [show ((0 : Int)).toNat = 0 from rfl] at hx372_0)
            (try rw [Addr.add_zero'] at hx372_0)
            replace p372 := eq_true p372
            replace q372 := eq_true q372
            go_wp2
            repeat (go_quiet (fail); try go_wp2)
            go_meet
            case rel => exact ⟨_, (true), (by first | rfl | (simp; done) | (simp [*]; done)), H', ⟨by first | omega | exact Nat.le_refl _⟩, ⟨by (with_reducible repeat (first | apply Kd.R_alloc | apply Kd.R_drewN | apply Kd.R_drew)); exact Kd.R_mono HO365.out (fun _ hk => hk.2)⟩, ⟨by (with_reducible repeat (first | apply Kd.R_alloc | apply Kd.R_drewN | apply Kd.R_drew)); exact HO368.out⟩, ⟨by (with_reducible repeat (first | apply Kd.R_alloc | apply Kd.R_drewN | apply Kd.R_drew)); exact Kd.R_mono HO371.out (fun _ hk => hk.2)⟩, ⟨by repeat (first | (with_reducible first | exact HB.out | apply below_alloc | apply pw_below_drewN | apply below_drew1) | exact HB.out)⟩⟩
        · rw [if_neg c14] at H
          exact absurd H (by simp)
    case rest =>
      clear HC8
      try clear c1
      try clear p2
      try clear p3
      try clear q3
      try clear hx3
      try clear qi3
      try clear c4
      try clear p6
      try clear c9
      try clear c12
      try clear c12b0
      try clear c12b1
      try clear c12b2
      try clear c14
      try clear c14b0
      try clear c14b1
      try clear c15
      try clear c15b0
      try clear c15b1
      try clear c16
      try clear c16b0
      try clear c16b1
      try clear c17
      try clear c17b0
      try clear c17b1
      try clear c18
      try clear c18b0
      try clear c18b1
      try clear hx372_0
      try clear hx373_0
      try clear p372
      try clear p373
      try clear q372
      try clear q373
      obtain ⟨kq, x54_7, rfl, HA, HJ7, HO_5, HO_6, HO_7, HB⟩ := hcut
      cases kq with
      | zero => exact absurd HA.out (by simp [ferrulelaw11_GraphOrders.j0])
      | succ kj7 =>
        have H := HA.out
        clear HA
        simp only [ferrulelaw11_GraphOrders.j0] at H
        by_cases c28 : x54_7 = true
        · subst c28
          have H1 : (some false) = some r := by rw [if_pos rfl] at H; exact H
          clear H
          have H := H1
          clear H1
          obtain rfl := Option.some.inj H
          go_wp2
          repeat (go_quiet (fail); try go_wp2)
          go_ret
          exact ⟨by first | rfl | (simp [errW_none, errW_some] <;> rfl) | (simp [*, errW_none, errW_some] <;> rfl), by repeat (first | (with_reducible first | exact HB.out | apply below_alloc | apply pw_below_drewN | apply below_drew1) | exact HB.out)⟩
        · replace c28 := Bool.eq_false_iff.mpr c28
          subst c28
          have H1 : (if 0 ≤ (wrap64 (1 + (Go.bits .and .i64 a0 31))) then (if ((wrap64 (1 + (Go.bits .and .i64 a0 31))) : Int).toNat ≤ 35184372088832 then (ferrulelaw11_GraphOrders.l0 kj7 (wrap64 (1 + (Go.bits .and .i64 a0 31))) t363 t366 t369 (List.replicate ((wrap64 (1 + (Go.bits .and .i64 a0 31))) : Int).toNat 0) 0 0) else (none)) else (none)) = some r := by rw [if_neg (show ¬ (false = true) by decide)] at H; exact H
          clear H
          have H := H1
          clear H1
          obtain ⟨ji29, hji29⟩ : ∃ j_ : Int, (wrap64 (1 + (Go.bits .and .i64 a0 31))) = j_ := ⟨_, rfl⟩
          replace H : (if 0 ≤ (ji29) then (if ((ji29) : Int).toNat ≤ 35184372088832 then (ferrulelaw11_GraphOrders.l0 kj7 (ji29) t363 t366 t369 (List.replicate ((ji29) : Int).toNat 0) 0 0) else (none)) else (none)) = some r := by first | (rw [hji29] at H; exact H) | (simp only [hji29] at H ⊢; exact H)
          have hji29w : (IntKind.i64.wrap (1 + (Go.bits .and .i64 a0 31))) = ji29 := (i64_w _).trans hji29
          by_cases c30 : 0 ≤ (ji29)
          · rw [if_pos c30] at H
            have c30b0 := eq_true c30
            have c30b1 : decide (0 ≤ (ji29)) = true := decide_eq_true c30
            clear c30
            by_cases c31 : ((ji29) : Int).toNat ≤ 35184372088832
            · rw [if_pos c31] at H
              have c31b0 := eq_true c31
              have c31b1 : decide (((ji29) : Int).toNat ≤ 35184372088832) = true := decide_eq_true c31
              clear c31
              obtain ⟨y374, hy374⟩ : ∃ y_ : List Int, y_ = (List.replicate ((ji29) : Int).toNat 0) := ⟨_, rfl⟩
              replace H : (ferrulelaw11_GraphOrders.l0 kj7 (ji29) t363 t366 t369 y374 0 0) = some r := by first | (rw [hy374]; with_reducible exact H) | (have H2_ := (Option.bind_some _ _).symm.trans H; rw [hy374]; with_reducible exact H2_) | (have H2_ := (Option.bind_some _ _).symm.trans H; with_reducible exact H2_) | with_reducible exact H | (rw [hy374]; exact H) | exact H
              have Ny374 := Aside0.mk hy374
              clear hy374
              have H' := Aside0.mk H
              clear H
              go_wp2_with (first | ((with_reducible refine gate_dst (N := 56) rfl ?_); (try (refine gate_guard (by rfl) ?_; dsimp only)); refine Kd.R_make (Kd.int .i64) _ 3 rfl (N := 56) rfl 27 _ _ rfl (ji29) (congrArg (Value.int .i64) hji29) (congrArg (Value.int .i64) hji29) Try.underlying27 (.int .i64 0) 8 info3 rfl (by decide) (by omega) 0 (ok := fun _ => True) (okp := fun _ => True) rfl (fun _ hk => hk) trivial (of_decide_eq_true (by first | (with_reducible assumption) | assumption)) (Nat.le_trans (Nat.mul_le_mul_right _ (of_decide_eq_true (by first | (with_reducible assumption) | assumption) : (ji29).toNat ≤ 35184372088832)) (by omega)) (Below.refl _ _) (Nat.le_refl _) ?_; intro v375 w32 ho33 hb hg_ hnew_; clear hg_ hnew_; (first | rw [← Ny374.out] at ho33 | (simp only [Int.reduceToNat] at ho33; rw [← Ny374.out] at ho33)); have n0_ := Aside0.mk (Kd.R_elder' (by (with_reducible repeat (first | apply Kd.R_alloc | apply Kd.R_drewN | apply Kd.R_drew)); exact HO_5.out) (Kd.R_base ho33) hb); have n1_ := Aside0.mk (Kd.R_below (by (with_reducible repeat (first | apply Kd.R_alloc | apply Kd.R_drewN | apply Kd.R_drew)); exact HO_6.out) hb); have n2_ := Aside0.mk (Kd.R_elder' (by (with_reducible repeat (first | apply Kd.R_alloc | apply Kd.R_drewN | apply Kd.R_drew)); exact HO_7.out) (Kd.R_base ho33) hb); have n3_ := Aside0.mk (Kd.R_lower (Kd.R_new' (Kd.R_new' ho33 (Kd.R_lt (by (with_reducible repeat (first | apply Kd.R_alloc | apply Kd.R_drewN | apply Kd.R_drew)); exact HO_5.out))) (Kd.R_lt (by (with_reducible repeat (first | apply Kd.R_alloc | apply Kd.R_drewN | apply Kd.R_drew)); exact HO_7.out))) (below_size (by repeat (first | (with_reducible first | exact HB.out | apply below_alloc | apply pw_below_drewN | apply below_drew1) | exact HB.out)))); have n4_ := Aside0.mk (below_step (by repeat (first | (with_reducible first | exact HB.out | apply below_alloc | apply pw_below_drewN | apply below_drew1) | exact HB.out)) hb); clear HO_5; clear HO_6; clear HO_7; clear HB; have HO_5 := n0_; have HO_6 := n1_; have HO_7 := n2_; have HO376 := n3_; have HB := n4_; clear n0_ n1_ n2_ n3_ n4_; clear hb ho33))
              repeat (go_quiet (first | ((with_reducible refine gate_dst (N := 56) rfl ?_); (try (refine gate_guard (by rfl) ?_; dsimp only)); refine Kd.R_make (Kd.int .i64) _ 3 rfl (N := 56) rfl 27 _ _ rfl (ji29) (congrArg (Value.int .i64) hji29) (congrArg (Value.int .i64) hji29) Try.underlying27 (.int .i64 0) 8 info3 rfl (by decide) (by omega) 0 (ok := fun _ => True) (okp := fun _ => True) rfl (fun _ hk => hk) trivial (of_decide_eq_true (by first | (with_reducible assumption) | assumption)) (Nat.le_trans (Nat.mul_le_mul_right _ (of_decide_eq_true (by first | (with_reducible assumption) | assumption) : (ji29).toNat ≤ 35184372088832)) (by omega)) (Below.refl _ _) (Nat.le_refl _) ?_; intro v375 w32 ho33 hb hg_ hnew_; clear hg_ hnew_; (first | rw [← Ny374.out] at ho33 | (simp only [Int.reduceToNat] at ho33; rw [← Ny374.out] at ho33)); have n0_ := Aside0.mk (Kd.R_elder' (by (with_reducible repeat (first | apply Kd.R_alloc | apply Kd.R_drewN | apply Kd.R_drew)); exact HO_5.out) (Kd.R_base ho33) hb); have n1_ := Aside0.mk (Kd.R_below (by (with_reducible repeat (first | apply Kd.R_alloc | apply Kd.R_drewN | apply Kd.R_drew)); exact HO_6.out) hb); have n2_ := Aside0.mk (Kd.R_elder' (by (with_reducible repeat (first | apply Kd.R_alloc | apply Kd.R_drewN | apply Kd.R_drew)); exact HO_7.out) (Kd.R_base ho33) hb); have n3_ := Aside0.mk (Kd.R_lower (Kd.R_new' (Kd.R_new' ho33 (Kd.R_lt (by (with_reducible repeat (first | apply Kd.R_alloc | apply Kd.R_drewN | apply Kd.R_drew)); exact HO_5.out))) (Kd.R_lt (by (with_reducible repeat (first | apply Kd.R_alloc | apply Kd.R_drewN | apply Kd.R_drew)); exact HO_7.out))) (below_size (by repeat (first | (with_reducible first | exact HB.out | apply below_alloc | apply pw_below_drewN | apply below_drew1) | exact HB.out)))); have n4_ := Aside0.mk (below_step (by repeat (first | (with_reducible first | exact HB.out | apply below_alloc | apply pw_below_drewN | apply below_drew1) | exact HB.out)) hb); clear HO_5; clear HO_6; clear HO_7; clear HB; have HO_5 := n0_; have HO_6 := n1_; have HO_7 := n2_; have HO376 := n3_; have HB := n4_; clear n0_ n1_ n2_ n3_ n4_; clear hb ho33)); try go_wp2_with (first | ((with_reducible refine gate_dst (N := 56) rfl ?_); (try (refine gate_guard (by rfl) ?_; dsimp only)); refine Kd.R_make (Kd.int .i64) _ 3 rfl (N := 56) rfl 27 _ _ rfl (ji29) (congrArg (Value.int .i64) hji29) (congrArg (Value.int .i64) hji29) Try.underlying27 (.int .i64 0) 8 info3 rfl (by decide) (by omega) 0 (ok := fun _ => True) (okp := fun _ => True) rfl (fun _ hk => hk) trivial (of_decide_eq_true (by first | (with_reducible assumption) | assumption)) (Nat.le_trans (Nat.mul_le_mul_right _ (of_decide_eq_true (by first | (with_reducible assumption) | assumption) : (ji29).toNat ≤ 35184372088832)) (by omega)) (Below.refl _ _) (Nat.le_refl _) ?_; intro v375 w32 ho33 hb hg_ hnew_; clear hg_ hnew_; (first | rw [← Ny374.out] at ho33 | (simp only [Int.reduceToNat] at ho33; rw [← Ny374.out] at ho33)); have n0_ := Aside0.mk (Kd.R_elder' (by (with_reducible repeat (first | apply Kd.R_alloc | apply Kd.R_drewN | apply Kd.R_drew)); exact HO_5.out) (Kd.R_base ho33) hb); have n1_ := Aside0.mk (Kd.R_below (by (with_reducible repeat (first | apply Kd.R_alloc | apply Kd.R_drewN | apply Kd.R_drew)); exact HO_6.out) hb); have n2_ := Aside0.mk (Kd.R_elder' (by (with_reducible repeat (first | apply Kd.R_alloc | apply Kd.R_drewN | apply Kd.R_drew)); exact HO_7.out) (Kd.R_base ho33) hb); have n3_ := Aside0.mk (Kd.R_lower (Kd.R_new' (Kd.R_new' ho33 (Kd.R_lt (by (with_reducible repeat (first | apply Kd.R_alloc | apply Kd.R_drewN | apply Kd.R_drew)); exact HO_5.out))) (Kd.R_lt (by (with_reducible repeat (first | apply Kd.R_alloc | apply Kd.R_drewN | apply Kd.R_drew)); exact HO_7.out))) (below_size (by repeat (first | (with_reducible first | exact HB.out | apply below_alloc | apply pw_below_drewN | apply below_drew1) | exact HB.out)))); have n4_ := Aside0.mk (below_step (by repeat (first | (with_reducible first | exact HB.out | apply below_alloc | apply pw_below_drewN | apply below_drew1) | exact HB.out)) hb); clear HO_5; clear HO_6; clear HO_7; clear HB; have HO_5 := n0_; have HO_6 := n1_; have HO_7 := n2_; have HO376 := n3_; have HB := n4_; clear n0_ n1_ n2_ n3_ n4_; clear hb ho33)))
              go_loopg [10] kj7 (fun kq v10 w' => ∃ (x8_2 : List Int) (x10_2 : Int), v10 = .int .i64 x10_2 ∧ Aside0 (ferrulelaw11_GraphOrders.l0 kq (ji29) t363 t366 t369 x8_2 0 x10_2 = some r) ∧ Aside0 (kq ≤ kj7) ∧ Aside0 (Kd.R (Kd.int .i64) 3 w' w.heap.size (fun k_ => some k_ ≠ (v370 : Value).ownBlock ∧ some k_ ≠ (v375 : Value).ownBlock) v364 t363) ∧ Aside0 (Kd.R Kd.bool 4 w' w.heap.size (fun _ => True) v367 t366) ∧ Aside0 (Kd.R (Kd.int .i64) 3 w' w.heap.size (fun k_ => some k_ ≠ (v364 : Value).ownBlock ∧ some k_ ≠ (v375 : Value).ownBlock) v370 t369) ∧ Aside0 (Kd.R (Kd.int .i64) 3 w' w.heap.size (fun k_ => some k_ ≠ (v364 : Value).ownBlock ∧ some k_ ≠ (v370 : Value).ownBlock) v375 x8_2) ∧ Aside0 (Below w.heap.size w w'))
              case atStart => exact ⟨(y374), (0), (by first | rfl | (simp; done) | (simp [*]; done)), H', ⟨Nat.le_refl _⟩, ⟨by (with_reducible repeat (first | apply Kd.R_alloc | apply Kd.R_drewN | apply Kd.R_drew)); exact HO_5.out⟩, ⟨by (with_reducible repeat (first | apply Kd.R_alloc | apply Kd.R_drewN | apply Kd.R_drew)); exact HO_6.out⟩, ⟨by (with_reducible repeat (first | apply Kd.R_alloc | apply Kd.R_drewN | apply Kd.R_drew)); exact HO_7.out⟩, ⟨by (with_reducible repeat (first | apply Kd.R_alloc | apply Kd.R_drewN | apply Kd.R_drew)); exact Kd.R_mono HO376.out (fun _ hk => ⟨hk.1.2, hk.2⟩)⟩, ⟨by repeat (first | (with_reducible first | exact HB.out | apply below_alloc | apply pw_below_drewN | apply below_drew1) | exact HB.out)⟩⟩
              case round =>
                clear H'
                try clear c1
                try clear c2
                try clear p2
                try clear c3
                try clear p3
                try clear q3
                try clear hx3
                try clear qi3
                try clear c4
                try clear p6
                try clear c9
                try clear c12
                try clear c12b0
                try clear c12b1
                try clear c12b2
                try clear c14
                try clear c14b0
                try clear c14b1
                try clear c15
                try clear c15b0
                try clear c15b1
                try clear c16
                try clear c16b0
                try clear c16b1
                try clear c17
                try clear c17b0
                try clear c17b1
                try clear c18
                try clear c18b0
                try clear c18b1
                try clear c28
                try clear c30
                try clear c30b0
                try clear c30b1
                try clear c31
                try clear c31b0
                try clear c31b1
                try clear hx372_0
                try clear hx373_0
                try clear p2
                try clear p3
                try clear p372
                try clear p373
                try clear p6
                try clear q3
                try clear q372
                try clear q373
                obtain ⟨x8_2, x10_2, rfl, HA, HK2, HO_5, HO_6, HO_7, HO_8, HB⟩ := hrel
                cases gk with
                | zero => exact absurd HA.out (by simp [ferrulelaw11_GraphOrders.l0])
                | succ k2 =>
                  have H := HA.out
                  clear HA
                  simp only [ferrulelaw11_GraphOrders.l0] at H
                  by_cases c34 : x10_2 < (t363.length : Int)
                  · rw [if_pos c34] at H
                    have c34b0 : decide (x10_2 < (t363.length : Int)) = true := decide_eq_true c34
                    clear c34
                    by_cases c35 : 0 ≤ x10_2
                    · rw [if_pos c35] at H
                      have c35b0 : decide (0 ≤ x10_2) = true := decide_eq_true c35
                      clear c35
                      by_cases c36 : (rd t363 x10_2) < 0
                      · rw [if_pos c36] at H
                        have c36b0 : decide ((rd t363 x10_2) < 0) = true := decide_eq_true c36
                        clear c36
                        obtain rfl := Option.some.inj H
                        obtain ⟨Ao37, co37, eo37⟩ := Kd.R_slice HO_5.out
                        subst eo37
                        have p377 : 0 ≤ (x10_2 : Int) := of_decide_eq_true (by first | (with_reducible assumption) | assumption)
                        have q377 : x10_2 < (t363.length : Int) := of_decide_eq_true (by first | (with_reducible assumption) | assumption)
                        obtain ⟨ad377, e377, hx377_0⟩ := Kd.at_int (Kd.R_reads' HO_5.out).2.2 x10_2 p377 q377
                        cases e377
                        replace p377 := eq_true p377
                        replace q377 := eq_true q377
                        go_wp2
                        repeat (go_quiet (fail); try go_wp2)
                        go_ret
                        exact ⟨by first | rfl | (simp [errW_none, errW_some] <;> rfl) | (simp only [← hji29]; first | rfl | (simp [errW_none, errW_some] <;> rfl)) | (simp [*, errW_none, errW_some] <;> rfl), by repeat (first | (with_reducible first | exact HB.out | apply below_alloc | apply pw_below_drewN | apply below_drew1) | exact HB.out)⟩
                      · rw [if_neg c36] at H
                        have c36b0 : decide ((rd t363 x10_2) < 0) = false := decide_eq_false c36
                        clear c36
                        by_cases c38 : (rd t363 x10_2) ≥ (ji29)
                        · rw [if_pos c38] at H
                          have c38b0 : decide ((ji29) ≤ (rd t363 x10_2)) = true := decide_eq_true c38
                          clear c38
                          obtain rfl := Option.some.inj H
                          obtain ⟨Ao39, co39, eo39⟩ := Kd.R_slice HO_5.out
                          subst eo39
                          have p377 : 0 ≤ (x10_2 : Int) := of_decide_eq_true (by first | (with_reducible assumption) | assumption)
                          have q377 : x10_2 < (t363.length : Int) := of_decide_eq_true (by first | (with_reducible assumption) | assumption)
                          obtain ⟨ad377, e377, hx377_0⟩ := Kd.at_int (Kd.R_reads' HO_5.out).2.2 x10_2 p377 q377
                          cases e377
                          replace p377 := eq_true p377
                          replace q377 := eq_true q377
                          go_wp2
                          repeat (go_quiet (fail); try go_wp2)
                          go_ret
                          exact ⟨by first | rfl | (simp [errW_none, errW_some] <;> rfl) | (simp only [← hji29]; first | rfl | (simp [errW_none, errW_some] <;> rfl)) | (simp [*, errW_none, errW_some] <;> rfl), by repeat (first | (with_reducible first | exact HB.out | apply below_alloc | apply pw_below_drewN | apply below_drew1) | exact HB.out)⟩
                        · rw [if_neg c38] at H
                          have c38b0 : decide ((ji29) ≤ (rd t363 x10_2)) = false := decide_eq_false c38
                          clear c38
                          by_cases c40 : 0 ≤ (rd t363 x10_2)
                          · rw [if_pos c40] at H
                            have c40b0 : decide (0 ≤ (rd t363 x10_2)) = true := decide_eq_true c40
                            clear c40
                            by_cases c41 : (rd t363 x10_2) < (x8_2.length : Int)
                            · rw [if_pos c41] at H
                              have c41b0 : decide ((rd t363 x10_2) < (x8_2.length : Int)) = true := decide_eq_true c41
                              clear c41
                              by_cases c42 : (rd x8_2 (rd t363 x10_2)) = 0
                              · rw [if_pos c42] at H
                                have c42b0 : ((rd x8_2 (rd t363 x10_2)) == 0) = true := beq_iff_eq.mpr c42
                                have c42b1 : ((rd x8_2 (rd t363 x10_2)) != 0) = false := bne_eq_false_iff_eq.mpr c42
                                clear c42
                                by_cases c43 : (rd t363 x10_2) < (t366.length : Int)
                                · rw [if_pos c43] at H
                                  have c43b0 : decide ((rd t363 x10_2) < (t366.length : Int)) = true := decide_eq_true c43
                                  clear c43
                                  obtain ⟨bq44, hbq44⟩ : ∃ b_ : Bool, b_ = (rdOf false t366 (rd t363 x10_2)) := ⟨_, rfl⟩
                                  replace H : (if (bq44 = true) then (ferrulelaw11_GraphOrders.l0 k2 (ji29) t363 t366 t369 (x8_2.set ((rd t363 x10_2) : Int).toNat (wrap64 (x10_2 + 1))) 0 (wrap64 (x10_2 + 1))) else (some false)) = some r := by rw [← hbq44] at H; exact H
                                  have Nbq44 := Aside0.mk hbq44
                                  clear hbq44
                                  by_cases c45 : (bq44 = true)
                                  · subst c45
                                    have H1 : (ferrulelaw11_GraphOrders.l0 k2 (ji29) t363 t366 t369 (x8_2.set ((rd t363 x10_2) : Int).toNat (wrap64 (x10_2 + 1))) 0 (wrap64 (x10_2 + 1))) = some r := by rw [if_pos rfl] at H; exact H
                                    clear H
                                    have H := H1
                                    clear H1
                                    obtain ⟨y380, hy380⟩ : ∃ y_ : List Int, y_ = (x8_2.set ((rd t363 x10_2) : Int).toNat (wrap64 (x10_2 + 1))) := ⟨_, rfl⟩
                                    replace H : (ferrulelaw11_GraphOrders.l0 k2 (ji29) t363 t366 t369 y380 0 (wrap64 (x10_2 + 1))) = some r := by first | (rw [hy380]; with_reducible exact H) | (have H2_ := (Option.bind_some _ _).symm.trans H; rw [hy380]; with_reducible exact H2_) | (have H2_ := (Option.bind_some _ _).symm.trans H; with_reducible exact H2_) | with_reducible exact H | (rw [hy380]; exact H) | exact H
                                    have Ny380 := Aside0.mk hy380
                                    clear hy380
                                    have H' := Aside0.mk H
                                    clear H
                                    obtain ⟨Ao47, co47, eo47⟩ := Kd.R_slice HO_5.out
                                    subst eo47
                                    have p377 : 0 ≤ (x10_2 : Int) := of_decide_eq_true (by first | (with_reducible assumption) | assumption)
                                    have q377 : x10_2 < (t363.length : Int) := of_decide_eq_true (by first | (with_reducible assumption) | assumption)
                                    obtain ⟨ad377, e377, hx377_0⟩ := Kd.at_int (Kd.R_reads' HO_5.out).2.2 x10_2 p377 q377
                                    cases e377
                                    replace p377 := eq_true p377
                                    replace q377 := eq_true q377
                                    obtain ⟨Ao48, co48, eo48⟩ := Kd.R_slice HO_8.out
                                    subst eo48
                                    have p378 : 0 ≤ ((rd t363 x10_2) : Int) := of_decide_eq_true (by first | (with_reducible assumption) | assumption)
                                    have q378 : (rd t363 x10_2) < (x8_2.length : Int) := of_decide_eq_true (by first | (with_reducible assumption) | assumption)
                                    obtain ⟨ad378, e378, hx378_0⟩ := Kd.at_int (Kd.R_reads' HO_8.out).2.2 (rd t363 x10_2) p378 q378
                                    cases e378
                                    replace p378 := eq_true p378
                                    replace q378 := eq_true q378
                                    obtain ⟨Ao49, co49, eo49⟩ := Kd.R_slice HO_6.out
                                    subst eo49
                                    have p379 : 0 ≤ ((rd t363 x10_2) : Int) := of_decide_eq_true (by first | (with_reducible assumption) | assumption)
                                    have q379 : (rd t363 x10_2) < (t366.length : Int) := of_decide_eq_true (by first | (with_reducible assumption) | assumption)
                                    obtain ⟨ad379, e379, hx379_0⟩ := Kd.at_bool (Kd.R_reads' HO_6.out).2.2 (rd t363 x10_2) p379 q379
                                    (try rw [← Nbq44.out] at hx379_0)
                                    cases e379
                                    replace p379 := eq_true p379
                                    replace q379 := eq_true q379
                                    have p46 : 0 ≤ ((rd t363 x10_2) : Int) := of_decide_eq_true (by first | (with_reducible assumption) | assumption)
                                    have q46 : ((rd t363 x10_2) : Int) < ((x8_2.length : Int) : Int) := of_decide_eq_true (by first | (with_reducible assumption) | assumption)
                                    obtain ⟨go46, co46, eo46, gb46, gl46, cl46, HG46⟩ := Kd.R_form HO_8.out (by omega)
                                    (first | cases eo46 | (injection eo46 with ea_ en_ ec_; (first | subst ea_ | (injection ea_ with ea_; subst ea_)); subst ec_; clear en_))
                                    have GB46 := Aside0.mk gb46
                                    have GG46 := Aside0.mk HG46
                                    clear gb46 gl46 HG46
                                    (first | simp only [add_plain] at hx378_0 | skip)
                                    obtain ⟨hx46_0, hf46_0⟩ := Kd.R_celln 0 HO_8.out ((rd t363 x10_2) : Int) p46 q46
                                    replace p46 := eq_true p46
                                    replace q46 := eq_true q46
                                    have HP50 := Kd.R_putg HO_8.out ((rd t363 x10_2) : Int) (wrap64 (x10_2 + 1))
                                    go_wp2_with (first | ((with_reducible refine gate_store (t := 3) (p := 92) rfl ?_); (try (rw [drewN_self wr]; generalize hq_ : World.drewN wr _ = wr; have n0_ := Aside0.mk (Kd.R_at hq_ HO_5.out); have n1_ := Aside0.mk (Kd.R_at hq_ HO_6.out); have n2_ := Aside0.mk (Kd.R_at hq_ HO_7.out); have n3_ := Aside0.mk (Kd.R_at hq_ HO_8.out); have n4_ := Aside0.mk (below_at hq_ HB.out); clear hq_ HO_5 HO_6 HO_7 HO_8 HB; have HO_5 := n0_; have HO_6 := n1_; have HO_7 := n2_; have HO_8 := n3_; have HB := n4_; clear n0_ n1_ n2_ n3_ n4_; (try (have HP50 := Kd.R_putg HO_8.out ((rd t363 x10_2) : Int) (wrap64 (x10_2 + 1)))))); refine store_event (t := 3) (p := 92) (v := ?vo_w51) (w1 := (wr.setCell ⟨go46, ((rd t363 x10_2) : Int).toNat, none⟩ (.int .i64 (wrap64 (x10_2 + 1))))) ?hg ?ho ?hn ?hr ?_; (case ho => rfl); (case hg => rfl); (case hn => rfl); (case hr => first | (go_simp; done) | (go_simp; rfl)); intro w51 hw; have hg : wr.grownBy w51 (some go46) := (by rw [hw]; exact HP50.2); have hp_ : Kd.R (Kd.int .i64) 3 w51 w.heap.size (fun k_ => some k_ ≠ (.slice (some ad377) t363.length co47 : Value).ownBlock ∧ some k_ ≠ (v370 : Value).ownBlock) (.slice (some ⟨go46, 0, none⟩) x8_2.length co48) y380 := (by rw [hw, Ny380.out]; exact HP50.1); clear HP50; have n0_ := Aside0.mk (Kd.R_after (v := (.slice (some ⟨go46, 0, none⟩) x8_2.length co48)) (v1 := (.slice (some ⟨go46, 0, none⟩) x8_2.length co48)) (ok := (fun k_ => some k_ ≠ (v370 : Value).ownBlock)) (by (with_reducible repeat (first | apply Kd.R_alloc | apply Kd.R_drewN | apply Kd.R_drew)); exact HO_5.out) hg (.inl rfl)); have n1_ := Aside0.mk (Kd.R_over' (v := (.slice (some ⟨go46, 0, none⟩) x8_2.length co48)) (by (with_reducible repeat (first | apply Kd.R_alloc | apply Kd.R_drewN | apply Kd.R_drew)); exact HO_6.out) (Kd.R_typed HO_8.out) (by decide) hg); have n2_ := Aside0.mk (Kd.R_after (v := (.slice (some ⟨go46, 0, none⟩) x8_2.length co48)) (v1 := (.slice (some ⟨go46, 0, none⟩) x8_2.length co48)) (ok := (fun k_ => some k_ ≠ (.slice (some ad377) t363.length co47 : Value).ownBlock)) (by (with_reducible repeat (first | apply Kd.R_alloc | apply Kd.R_drewN | apply Kd.R_drew)); exact HO_7.out) hg (.inl rfl)); have n3_ := Aside0.mk (hp_); have n4_ := Aside0.mk ((by rw [hw]; exact below_set (HB.out) GB46.out : Below w.heap.size w w51)); clear HO_5; clear HO_6; clear HO_7; clear HO_8; clear HB; have HO_5 := n0_; have HO_6 := n1_; have HO_7 := n2_; have HO_8 := n3_; have HB := n4_; clear n0_ n1_ n2_ n3_ n4_; clear hg hw hp_))
                                    repeat (go_quiet (first | ((with_reducible refine gate_store (t := 3) (p := 92) rfl ?_); (try (rw [drewN_self wr]; generalize hq_ : World.drewN wr _ = wr; have n0_ := Aside0.mk (Kd.R_at hq_ HO_5.out); have n1_ := Aside0.mk (Kd.R_at hq_ HO_6.out); have n2_ := Aside0.mk (Kd.R_at hq_ HO_7.out); have n3_ := Aside0.mk (Kd.R_at hq_ HO_8.out); have n4_ := Aside0.mk (below_at hq_ HB.out); clear hq_ HO_5 HO_6 HO_7 HO_8 HB; have HO_5 := n0_; have HO_6 := n1_; have HO_7 := n2_; have HO_8 := n3_; have HB := n4_; clear n0_ n1_ n2_ n3_ n4_; (try (have HP50 := Kd.R_putg HO_8.out ((rd t363 x10_2) : Int) (wrap64 (x10_2 + 1)))))); refine store_event (t := 3) (p := 92) (v := ?vo_w51) (w1 := (wr.setCell ⟨go46, ((rd t363 x10_2) : Int).toNat, none⟩ (.int .i64 (wrap64 (x10_2 + 1))))) ?hg ?ho ?hn ?hr ?_; (case ho => rfl); (case hg => rfl); (case hn => rfl); (case hr => first | (go_simp; done) | (go_simp; rfl)); intro w51 hw; have hg : wr.grownBy w51 (some go46) := (by rw [hw]; exact HP50.2); have hp_ : Kd.R (Kd.int .i64) 3 w51 w.heap.size (fun k_ => some k_ ≠ (.slice (some ad377) t363.length co47 : Value).ownBlock ∧ some k_ ≠ (v370 : Value).ownBlock) (.slice (some ⟨go46, 0, none⟩) x8_2.length co48) y380 := (by rw [hw, Ny380.out]; exact HP50.1); clear HP50; have n0_ := Aside0.mk (Kd.R_after (v := (.slice (some ⟨go46, 0, none⟩) x8_2.length co48)) (v1 := (.slice (some ⟨go46, 0, none⟩) x8_2.length co48)) (ok := (fun k_ => some k_ ≠ (v370 : Value).ownBlock)) (by (with_reducible repeat (first | apply Kd.R_alloc | apply Kd.R_drewN | apply Kd.R_drew)); exact HO_5.out) hg (.inl rfl)); have n1_ := Aside0.mk (Kd.R_over' (v := (.slice (some ⟨go46, 0, none⟩) x8_2.length co48)) (by (with_reducible repeat (first | apply Kd.R_alloc | apply Kd.R_drewN | apply Kd.R_drew)); exact HO_6.out) (Kd.R_typed HO_8.out) (by decide) hg); have n2_ := Aside0.mk (Kd.R_after (v := (.slice (some ⟨go46, 0, none⟩) x8_2.length co48)) (v1 := (.slice (some ⟨go46, 0, none⟩) x8_2.length co48)) (ok := (fun k_ => some k_ ≠ (.slice (some ad377) t363.length co47 : Value).ownBlock)) (by (with_reducible repeat (first | apply Kd.R_alloc | apply Kd.R_drewN | apply Kd.R_drew)); exact HO_7.out) hg (.inl rfl)); have n3_ := Aside0.mk (hp_); have n4_ := Aside0.mk ((by rw [hw]; exact below_set (HB.out) GB46.out : Below w.heap.size w w51)); clear HO_5; clear HO_6; clear HO_7; clear HO_8; clear HB; have HO_5 := n0_; have HO_6 := n1_; have HO_7 := n2_; have HO_8 := n3_; have HB := n4_; clear n0_ n1_ n2_ n3_ n4_; clear hg hw hp_)); try go_wp2_with (first | ((with_reducible refine gate_store (t := 3) (p := 92) rfl ?_); (try (rw [drewN_self wr]; generalize hq_ : World.drewN wr _ = wr; have n0_ := Aside0.mk (Kd.R_at hq_ HO_5.out); have n1_ := Aside0.mk (Kd.R_at hq_ HO_6.out); have n2_ := Aside0.mk (Kd.R_at hq_ HO_7.out); have n3_ := Aside0.mk (Kd.R_at hq_ HO_8.out); have n4_ := Aside0.mk (below_at hq_ HB.out); clear hq_ HO_5 HO_6 HO_7 HO_8 HB; have HO_5 := n0_; have HO_6 := n1_; have HO_7 := n2_; have HO_8 := n3_; have HB := n4_; clear n0_ n1_ n2_ n3_ n4_; (try (have HP50 := Kd.R_putg HO_8.out ((rd t363 x10_2) : Int) (wrap64 (x10_2 + 1)))))); refine store_event (t := 3) (p := 92) (v := ?vo_w51) (w1 := (wr.setCell ⟨go46, ((rd t363 x10_2) : Int).toNat, none⟩ (.int .i64 (wrap64 (x10_2 + 1))))) ?hg ?ho ?hn ?hr ?_; (case ho => rfl); (case hg => rfl); (case hn => rfl); (case hr => first | (go_simp; done) | (go_simp; rfl)); intro w51 hw; have hg : wr.grownBy w51 (some go46) := (by rw [hw]; exact HP50.2); have hp_ : Kd.R (Kd.int .i64) 3 w51 w.heap.size (fun k_ => some k_ ≠ (.slice (some ad377) t363.length co47 : Value).ownBlock ∧ some k_ ≠ (v370 : Value).ownBlock) (.slice (some ⟨go46, 0, none⟩) x8_2.length co48) y380 := (by rw [hw, Ny380.out]; exact HP50.1); clear HP50; have n0_ := Aside0.mk (Kd.R_after (v := (.slice (some ⟨go46, 0, none⟩) x8_2.length co48)) (v1 := (.slice (some ⟨go46, 0, none⟩) x8_2.length co48)) (ok := (fun k_ => some k_ ≠ (v370 : Value).ownBlock)) (by (with_reducible repeat (first | apply Kd.R_alloc | apply Kd.R_drewN | apply Kd.R_drew)); exact HO_5.out) hg (.inl rfl)); have n1_ := Aside0.mk (Kd.R_over' (v := (.slice (some ⟨go46, 0, none⟩) x8_2.length co48)) (by (with_reducible repeat (first | apply Kd.R_alloc | apply Kd.R_drewN | apply Kd.R_drew)); exact HO_6.out) (Kd.R_typed HO_8.out) (by decide) hg); have n2_ := Aside0.mk (Kd.R_after (v := (.slice (some ⟨go46, 0, none⟩) x8_2.length co48)) (v1 := (.slice (some ⟨go46, 0, none⟩) x8_2.length co48)) (ok := (fun k_ => some k_ ≠ (.slice (some ad377) t363.length co47 : Value).ownBlock)) (by (with_reducible repeat (first | apply Kd.R_alloc | apply Kd.R_drewN | apply Kd.R_drew)); exact HO_7.out) hg (.inl rfl)); have n3_ := Aside0.mk (hp_); have n4_ := Aside0.mk ((by rw [hw]; exact below_set (HB.out) GB46.out : Below w.heap.size w w51)); clear HO_5; clear HO_6; clear HO_7; clear HO_8; clear HB; have HO_5 := n0_; have HO_6 := n1_; have HO_7 := n2_; have HO_8 := n3_; have HB := n4_; clear n0_ n1_ n2_ n3_ n4_; clear hg hw hp_)))
                                    go_roundg k2
                                    case measure => have := HJ7.out; have := HK2.out; omega
                                    case rel => exact ⟨(y380), (wrap64 (x10_2 + 1)), (by first | rfl | (simp; done) | (simp [*]; done)), H', ⟨by have := HJ7.out; have := HK2.out; omega⟩, ⟨by (with_reducible repeat (first | apply Kd.R_alloc | apply Kd.R_drewN | apply Kd.R_drew)); exact HO_5.out⟩, ⟨by (with_reducible repeat (first | apply Kd.R_alloc | apply Kd.R_drewN | apply Kd.R_drew)); exact HO_6.out⟩, ⟨by (with_reducible repeat (first | apply Kd.R_alloc | apply Kd.R_drewN | apply Kd.R_drew)); exact HO_7.out⟩, ⟨by (with_reducible repeat (first | apply Kd.R_alloc | apply Kd.R_drewN | apply Kd.R_drew)); exact HO_8.out⟩, ⟨by repeat (first | (with_reducible first | exact HB.out | apply below_alloc | apply pw_below_drewN | apply below_drew1) | exact HB.out)⟩⟩
                                  · replace c45 := Bool.eq_false_iff.mpr c45
                                    subst c45
                                    have H1 : (some false) = some r := by rw [if_neg (show ¬ (false = true) by decide)] at H; exact H
                                    clear H
                                    have H := H1
                                    clear H1
                                    obtain rfl := Option.some.inj H
                                    obtain ⟨Ao52, co52, eo52⟩ := Kd.R_slice HO_5.out
                                    subst eo52
                                    have p377 : 0 ≤ (x10_2 : Int) := of_decide_eq_true (by first | (with_reducible assumption) | assumption)
                                    have q377 : x10_2 < (t363.length : Int) := of_decide_eq_true (by first | (with_reducible assumption) | assumption)
                                    obtain ⟨ad377, e377, hx377_0⟩ := Kd.at_int (Kd.R_reads' HO_5.out).2.2 x10_2 p377 q377
                                    cases e377
                                    replace p377 := eq_true p377
                                    replace q377 := eq_true q377
                                    obtain ⟨Ao53, co53, eo53⟩ := Kd.R_slice HO_8.out
                                    subst eo53
                                    have p378 : 0 ≤ ((rd t363 x10_2) : Int) := of_decide_eq_true (by first | (with_reducible assumption) | assumption)
                                    have q378 : (rd t363 x10_2) < (x8_2.length : Int) := of_decide_eq_true (by first | (with_reducible assumption) | assumption)
                                    obtain ⟨ad378, e378, hx378_0⟩ := Kd.at_int (Kd.R_reads' HO_8.out).2.2 (rd t363 x10_2) p378 q378
                                    cases e378
                                    replace p378 := eq_true p378
                                    replace q378 := eq_true q378
                                    obtain ⟨Ao54, co54, eo54⟩ := Kd.R_slice HO_6.out
                                    subst eo54
                                    have p379 : 0 ≤ ((rd t363 x10_2) : Int) := of_decide_eq_true (by first | (with_reducible assumption) | assumption)
                                    have q379 : (rd t363 x10_2) < (t366.length : Int) := of_decide_eq_true (by first | (with_reducible assumption) | assumption)
                                    obtain ⟨ad379, e379, hx379_0⟩ := Kd.at_bool (Kd.R_reads' HO_6.out).2.2 (rd t363 x10_2) p379 q379
                                    (try rw [← Nbq44.out] at hx379_0)
                                    cases e379
                                    replace p379 := eq_true p379
                                    replace q379 := eq_true q379
                                    go_wp2
                                    repeat (go_quiet (fail); try go_wp2)
                                    go_ret
                                    exact ⟨by first | rfl | (simp [errW_none, errW_some] <;> rfl) | (simp only [← hji29]; first | rfl | (simp [errW_none, errW_some] <;> rfl)) | (simp [*, errW_none, errW_some] <;> rfl), by repeat (first | (with_reducible first | exact HB.out | apply below_alloc | apply pw_below_drewN | apply below_drew1) | exact HB.out)⟩
                                · rw [if_neg c43] at H
                                  exact absurd H (by simp)
                              · rw [if_neg c42] at H
                                have c42b0 : ((rd x8_2 (rd t363 x10_2)) == 0) = false := beq_eq_false_iff_ne.mpr c42
                                have c42b1 : ((rd x8_2 (rd t363 x10_2)) != 0) = true := bne_iff_ne.mpr c42
                                obtain rfl := Option.some.inj H
                                obtain ⟨Ao55, co55, eo55⟩ := Kd.R_slice HO_5.out
                                subst eo55
                                have p377 : 0 ≤ (x10_2 : Int) := of_decide_eq_true (by first | (with_reducible assumption) | assumption)
                                have q377 : x10_2 < (t363.length : Int) := of_decide_eq_true (by first | (with_reducible assumption) | assumption)
                                obtain ⟨ad377, e377, hx377_0⟩ := Kd.at_int (Kd.R_reads' HO_5.out).2.2 x10_2 p377 q377
                                cases e377
                                replace p377 := eq_true p377
                                replace q377 := eq_true q377
                                obtain ⟨Ao56, co56, eo56⟩ := Kd.R_slice HO_8.out
                                subst eo56
                                have p378 : 0 ≤ ((rd t363 x10_2) : Int) := of_decide_eq_true (by first | (with_reducible assumption) | assumption)
                                have q378 : (rd t363 x10_2) < (x8_2.length : Int) := of_decide_eq_true (by first | (with_reducible assumption) | assumption)
                                obtain ⟨ad378, e378, hx378_0⟩ := Kd.at_int (Kd.R_reads' HO_8.out).2.2 (rd t363 x10_2) p378 q378
                                cases e378
                                replace p378 := eq_true p378
                                replace q378 := eq_true q378
                                go_wp2
                                repeat (go_quiet (fail); try go_wp2)
                                go_ret
                                exact ⟨by first | rfl | (simp [errW_none, errW_some] <;> rfl) | (simp only [← hji29]; first | rfl | (simp [errW_none, errW_some] <;> rfl)) | (simp [*, errW_none, errW_some] <;> rfl), by repeat (first | (with_reducible first | exact HB.out | apply below_alloc | apply pw_below_drewN | apply below_drew1) | exact HB.out)⟩
                            · rw [if_neg c41] at H
                              exact absurd H (by simp)
                          · rw [if_neg c40] at H
                            exact absurd H (by simp)
                    · rw [if_neg c35] at H
                      exact absurd H (by simp)
                  · rw [if_neg c34] at H
                    have c34b0 : decide (x10_2 < (t363.length : Int)) = false := decide_eq_false c34
                    clear c34
                    have H' := Aside0.mk H
                    clear H
                    obtain ⟨Ao57, co57, eo57⟩ := Kd.R_slice HO_5.out
                    subst eo57
                    go_wp2
                    repeat (go_quiet (fail); try go_wp2)
                    go_loopg [9, 12] k2 (fun kq v9 v12 w' => ∃ (x9_3 : Int) (x12_3 : Int), v9 = .int .i64 x9_3 ∧ v12 = .int .i64 x12_3 ∧ Aside0 (ferrulelaw11_GraphOrders.l1 kq (ji29) t363 t366 t369 x8_2 x9_3 x12_3 = some r) ∧ Aside0 (kq ≤ k2) ∧ Aside0 (Kd.R (Kd.int .i64) 3 w' w.heap.size (fun k_ => some k_ ≠ (v370 : Value).ownBlock ∧ some k_ ≠ (v375 : Value).ownBlock) (.slice Ao57 t363.length co57) t363) ∧ Aside0 (Kd.R Kd.bool 4 w' w.heap.size (fun _ => True) v367 t366) ∧ Aside0 (Kd.R (Kd.int .i64) 3 w' w.heap.size (fun k_ => some k_ ≠ ((.slice Ao57 t363.length co57) : Value).ownBlock ∧ some k_ ≠ (v375 : Value).ownBlock) v370 t369) ∧ Aside0 (Kd.R (Kd.int .i64) 3 w' w.heap.size (fun k_ => some k_ ≠ ((.slice Ao57 t363.length co57) : Value).ownBlock ∧ some k_ ≠ (v370 : Value).ownBlock) v375 x8_2) ∧ Aside0 (Below w.heap.size w w'))
                    case atStart => exact ⟨(0), (0), (by first | rfl | (simp; done) | (simp [*]; done)), (by first | rfl | (simp; done) | (simp [*]; done)), H', ⟨Nat.le_refl _⟩, ⟨by (with_reducible repeat (first | apply Kd.R_alloc | apply Kd.R_drewN | apply Kd.R_drew)); exact HO_5.out⟩, ⟨by (with_reducible repeat (first | apply Kd.R_alloc | apply Kd.R_drewN | apply Kd.R_drew)); exact HO_6.out⟩, ⟨by (with_reducible repeat (first | apply Kd.R_alloc | apply Kd.R_drewN | apply Kd.R_drew)); exact HO_7.out⟩, ⟨by (with_reducible repeat (first | apply Kd.R_alloc | apply Kd.R_drewN | apply Kd.R_drew)); exact HO_8.out⟩, ⟨by repeat (first | (with_reducible first | exact HB.out | apply below_alloc | apply pw_below_drewN | apply below_drew1) | exact HB.out)⟩⟩
                    case round =>
                      clear H'
                      try clear c1
                      try clear c2
                      try clear p2
                      try clear c3
                      try clear p3
                      try clear q3
                      try clear hx3
                      try clear qi3
                      try clear c4
                      try clear p4
                      try clear q4
                      try clear hx4
                      try clear hf4
                      try clear p6
                      try clear c9
                      try clear c12
                      try clear c12b0
                      try clear c12b1
                      try clear c12b2
                      try clear c14
                      try clear c14b0
                      try clear c14b1
                      try clear c15
                      try clear c15b0
                      try clear c15b1
                      try clear c16
                      try clear c16b0
                      try clear c16b1
                      try clear c17
                      try clear c17b0
                      try clear c17b1
                      try clear c18
                      try clear c18b0
                      try clear c18b1
                      try clear c28
                      try clear c30
                      try clear c30b0
                      try clear c30b1
                      try clear c31
                      try clear c31b0
                      try clear c31b1
                      try clear c34
                      try clear c34b0
                      try clear c35
                      try clear c35b0
                      try clear c36
                      try clear c36b0
                      try clear p37
                      try clear q37
                      try clear hx37
                      try clear qi37
                      try clear c38
                      try clear c38b0
                      try clear c40
                      try clear c40b0
                      try clear c41
                      try clear c41b0
                      try clear c42
                      try clear c42b0
                      try clear c42b1
                      try clear c43
                      try clear c43b0
                      try clear q44
                      try clear c45
                      try clear p46
                      try clear q46
                      try clear hx46
                      try clear hf46
                      try clear hx372_0
                      try clear hx373_0
                      try clear hx377_0
                      try clear hx378_0
                      try clear hx379_0
                      try clear hx46_0
                      try clear p2
                      try clear p3
                      try clear p372
                      try clear p373
                      try clear p377
                      try clear p378
                      try clear p379
                      try clear p46
                      try clear p6
                      try clear q3
                      try clear q372
                      try clear q373
                      try clear q377
                      try clear q378
                      try clear q379
                      try clear q46
                      obtain ⟨x9_3, x12_3, rfl, rfl, HA, HK3, HO_5, HO_6, HO_7, HO_8, HB⟩ := hrel
                      cases gk with
                      | zero => exact absurd HA.out (by simp [ferrulelaw11_GraphOrders.l1])
                      | succ k3 =>
                        have H := HA.out
                        clear HA
                        simp only [ferrulelaw11_GraphOrders.l1] at H
                        by_cases c58 : x12_3 < (ji29)
                        · rw [if_pos c58] at H
                          have c58b0 : decide (x12_3 < (ji29)) = true := decide_eq_true c58
                          clear c58
                          by_cases c59 : 0 ≤ x12_3
                          · rw [if_pos c59] at H
                            have c59b0 : decide (0 ≤ x12_3) = true := decide_eq_true c59
                            clear c59
                            by_cases c60 : x12_3 < (t366.length : Int)
                            · rw [if_pos c60] at H
                              have c60b0 : decide (x12_3 < (t366.length : Int)) = true := decide_eq_true c60
                              clear c60
                              obtain ⟨bq61, hbq61⟩ : ∃ b_ : Bool, b_ = (rdOf false t366 x12_3) := ⟨_, rfl⟩
                              replace H : (if bq61 = true then (if x12_3 > 0 then (if x12_3 < (t369.length : Int) then (if (rd t369 x12_3) < 0 then (some false) else (if 0 ≤ (rd t369 x12_3) then (if (rd t369 x12_3) < (x8_2.length : Int) then (if x12_3 < (x8_2.length : Int) then (if (rd x8_2 (rd t369 x12_3)) ≥ (rd x8_2 x12_3) then (some false) else (ferrulelaw11_GraphOrders.l1 k3 (ji29) t363 t366 t369 x8_2 (wrap64 (x9_3 + 1)) (wrap64 (x12_3 + 1)))) else (none)) else (none)) else (none))) else (none)) else (ferrulelaw11_GraphOrders.l1 k3 (ji29) t363 t366 t369 x8_2 (wrap64 (x9_3 + 1)) (wrap64 (x12_3 + 1)))) else (if x12_3 < (t369.length : Int) then (if (rd t369 x12_3) = (-1) then (ferrulelaw11_GraphOrders.l1 k3 (ji29) t363 t366 t369 x8_2 x9_3 (wrap64 (x12_3 + 1))) else (some false)) else (none))) = some r := by rw [← hbq61] at H; exact H
                              have Nbq61 := Aside0.mk hbq61
                              clear hbq61
                              by_cases c62 : bq61 = true
                              · subst c62
                                have H1 : (if x12_3 > 0 then (if x12_3 < (t369.length : Int) then (if (rd t369 x12_3) < 0 then (some false) else (if 0 ≤ (rd t369 x12_3) then (if (rd t369 x12_3) < (x8_2.length : Int) then (if x12_3 < (x8_2.length : Int) then (if (rd x8_2 (rd t369 x12_3)) ≥ (rd x8_2 x12_3) then (some false) else (ferrulelaw11_GraphOrders.l1 k3 (ji29) t363 t366 t369 x8_2 (wrap64 (x9_3 + 1)) (wrap64 (x12_3 + 1)))) else (none)) else (none)) else (none))) else (none)) else (ferrulelaw11_GraphOrders.l1 k3 (ji29) t363 t366 t369 x8_2 (wrap64 (x9_3 + 1)) (wrap64 (x12_3 + 1)))) = some r := by rw [if_pos rfl] at H; exact H
                                clear H
                                have H := H1
                                clear H1
                                by_cases c63 : x12_3 > 0
                                · rw [if_pos c63] at H
                                  have c63b0 : decide (0 < x12_3) = true := decide_eq_true c63
                                  clear c63
                                  by_cases c64 : x12_3 < (t369.length : Int)
                                  · rw [if_pos c64] at H
                                    have c64b0 : decide (x12_3 < (t369.length : Int)) = true := decide_eq_true c64
                                    clear c64
                                    by_cases c65 : (rd t369 x12_3) < 0
                                    · rw [if_pos c65] at H
                                      have c65b0 : decide ((rd t369 x12_3) < 0) = true := decide_eq_true c65
                                      clear c65
                                      obtain rfl := Option.some.inj H
                                      obtain ⟨Ao66, co66, eo66⟩ := Kd.R_slice HO_6.out
                                      subst eo66
                                      have p381 : 0 ≤ (x12_3 : Int) := of_decide_eq_true (by first | (with_reducible assumption) | assumption)
                                      have q381 : x12_3 < (t366.length : Int) := of_decide_eq_true (by first | (with_reducible assumption) | assumption)
                                      obtain ⟨ad381, e381, hx381_0⟩ := Kd.at_bool (Kd.R_reads' HO_6.out).2.2 x12_3 p381 q381
                                      (try rw [← Nbq61.out] at hx381_0)
                                      cases e381
                                      replace p381 := eq_true p381
                                      replace q381 := eq_true q381
                                      obtain ⟨Ao67, co67, eo67⟩ := Kd.R_slice HO_7.out
                                      subst eo67
                                      have p382 : 0 ≤ (x12_3 : Int) := of_decide_eq_true (by first | (with_reducible assumption) | assumption)
                                      have q382 : x12_3 < (t369.length : Int) := of_decide_eq_true (by first | (with_reducible assumption) | assumption)
                                      obtain ⟨ad382, e382, hx382_0⟩ := Kd.at_int (Kd.R_reads' HO_7.out).2.2 x12_3 p382 q382
                                      cases e382
                                      replace p382 := eq_true p382
                                      replace q382 := eq_true q382
                                      go_wp2
                                      repeat (go_quiet (fail); try go_wp2)
                                      go_ret
                                      exact ⟨by first | rfl | (simp [errW_none, errW_some] <;> rfl) | (simp only [← hji29]; first | rfl | (simp [errW_none, errW_some] <;> rfl)) | (simp [*, errW_none, errW_some] <;> rfl), by repeat (first | (with_reducible first | exact HB.out | apply below_alloc | apply pw_below_drewN | apply below_drew1) | exact HB.out)⟩
                                    · rw [if_neg c65] at H
                                      have c65b0 : decide ((rd t369 x12_3) < 0) = false := decide_eq_false c65
                                      clear c65
                                      by_cases c68 : 0 ≤ (rd t369 x12_3)
                                      · rw [if_pos c68] at H
                                        have c68b0 : decide (0 ≤ (rd t369 x12_3)) = true := decide_eq_true c68
                                        clear c68
                                        by_cases c69 : (rd t369 x12_3) < (x8_2.length : Int)
                                        · rw [if_pos c69] at H
                                          have c69b0 : decide ((rd t369 x12_3) < (x8_2.length : Int)) = true := decide_eq_true c69
                                          clear c69
                                          by_cases c70 : x12_3 < (x8_2.length : Int)
                                          · rw [if_pos c70] at H
                                            have c70b0 : decide (x12_3 < (x8_2.length : Int)) = true := decide_eq_true c70
                                            clear c70
                                            by_cases c71 : (rd x8_2 (rd t369 x12_3)) ≥ (rd x8_2 x12_3)
                                            · rw [if_pos c71] at H
                                              have c71b0 : decide ((rd x8_2 x12_3) ≤ (rd x8_2 (rd t369 x12_3))) = true := decide_eq_true c71
                                              clear c71
                                              obtain rfl := Option.some.inj H
                                              obtain ⟨Ao72, co72, eo72⟩ := Kd.R_slice HO_6.out
                                              subst eo72
                                              have p381 : 0 ≤ (x12_3 : Int) := of_decide_eq_true (by first | (with_reducible assumption) | assumption)
                                              have q381 : x12_3 < (t366.length : Int) := of_decide_eq_true (by first | (with_reducible assumption) | assumption)
                                              obtain ⟨ad381, e381, hx381_0⟩ := Kd.at_bool (Kd.R_reads' HO_6.out).2.2 x12_3 p381 q381
                                              (try rw [← Nbq61.out] at hx381_0)
                                              cases e381
                                              replace p381 := eq_true p381
                                              replace q381 := eq_true q381
                                              obtain ⟨Ao73, co73, eo73⟩ := Kd.R_slice HO_7.out
                                              subst eo73
                                              have p382 : 0 ≤ (x12_3 : Int) := of_decide_eq_true (by first | (with_reducible assumption) | assumption)
                                              have q382 : x12_3 < (t369.length : Int) := of_decide_eq_true (by first | (with_reducible assumption) | assumption)
                                              obtain ⟨ad382, e382, hx382_0⟩ := Kd.at_int (Kd.R_reads' HO_7.out).2.2 x12_3 p382 q382
                                              cases e382
                                              replace p382 := eq_true p382
                                              replace q382 := eq_true q382
                                              have p383 : 0 ≤ (x12_3 : Int) := of_decide_eq_true (by first | (with_reducible assumption) | assumption)
                                              have q383 : x12_3 < (t369.length : Int) := of_decide_eq_true (by first | (with_reducible assumption) | assumption)
                                              obtain ⟨ad383, e383, hx383_0⟩ := Kd.at_int (Kd.R_reads' HO_7.out).2.2 x12_3 p383 q383
                                              obtain rfl : ad382 = ad383 := (by injection e383)
                                              replace p383 := eq_true p383
                                              replace q383 := eq_true q383
                                              obtain ⟨Ao74, co74, eo74⟩ := Kd.R_slice HO_8.out
                                              subst eo74
                                              have p384 : 0 ≤ ((rd t369 x12_3) : Int) := of_decide_eq_true (by first | (with_reducible assumption) | assumption)
                                              have q384 : (rd t369 x12_3) < (x8_2.length : Int) := of_decide_eq_true (by first | (with_reducible assumption) | assumption)
                                              obtain ⟨ad384, e384, hx384_0⟩ := Kd.at_int (Kd.R_reads' HO_8.out).2.2 (rd t369 x12_3) p384 q384
                                              cases e384
                                              replace p384 := eq_true p384
                                              replace q384 := eq_true q384
                                              have p385 : 0 ≤ (x12_3 : Int) := of_decide_eq_true (by first | (with_reducible assumption) | assumption)
                                              have q385 : x12_3 < (x8_2.length : Int) := of_decide_eq_true (by first | (with_reducible assumption) | assumption)
                                              obtain ⟨ad385, e385, hx385_0⟩ := Kd.at_int (Kd.R_reads' HO_8.out).2.2 x12_3 p385 q385
                                              obtain rfl : ad384 = ad385 := (by injection e385)
                                              replace p385 := eq_true p385
                                              replace q385 := eq_true q385
                                              go_wp2
                                              repeat (go_quiet (fail); try go_wp2)
                                              go_ret
                                              exact ⟨by first | rfl | (simp [errW_none, errW_some] <;> rfl) | (simp only [← hji29]; first | rfl | (simp [errW_none, errW_some] <;> rfl)) | (simp [*, errW_none, errW_some] <;> rfl), by repeat (first | (with_reducible first | exact HB.out | apply below_alloc | apply pw_below_drewN | apply below_drew1) | exact HB.out)⟩
                                            · rw [if_neg c71] at H
                                              have c71b0 : decide ((rd x8_2 x12_3) ≤ (rd x8_2 (rd t369 x12_3))) = false := decide_eq_false c71
                                              clear c71
                                              have H' := Aside0.mk H
                                              clear H
                                              obtain ⟨Ao75, co75, eo75⟩ := Kd.R_slice HO_6.out
                                              subst eo75
                                              have p381 : 0 ≤ (x12_3 : Int) := of_decide_eq_true (by first | (with_reducible assumption) | assumption)
                                              have q381 : x12_3 < (t366.length : Int) := of_decide_eq_true (by first | (with_reducible assumption) | assumption)
                                              obtain ⟨ad381, e381, hx381_0⟩ := Kd.at_bool (Kd.R_reads' HO_6.out).2.2 x12_3 p381 q381
                                              (try rw [← Nbq61.out] at hx381_0)
                                              cases e381
                                              replace p381 := eq_true p381
                                              replace q381 := eq_true q381
                                              obtain ⟨Ao76, co76, eo76⟩ := Kd.R_slice HO_7.out
                                              subst eo76
                                              have p382 : 0 ≤ (x12_3 : Int) := of_decide_eq_true (by first | (with_reducible assumption) | assumption)
                                              have q382 : x12_3 < (t369.length : Int) := of_decide_eq_true (by first | (with_reducible assumption) | assumption)
                                              obtain ⟨ad382, e382, hx382_0⟩ := Kd.at_int (Kd.R_reads' HO_7.out).2.2 x12_3 p382 q382
                                              cases e382
                                              replace p382 := eq_true p382
                                              replace q382 := eq_true q382
                                              have p383 : 0 ≤ (x12_3 : Int) := of_decide_eq_true (by first | (with_reducible assumption) | assumption)
                                              have q383 : x12_3 < (t369.length : Int) := of_decide_eq_true (by first | (with_reducible assumption) | assumption)
                                              obtain ⟨ad383, e383, hx383_0⟩ := Kd.at_int (Kd.R_reads' HO_7.out).2.2 x12_3 p383 q383
                                              obtain rfl : ad382 = ad383 := (by injection e383)
                                              replace p383 := eq_true p383
                                              replace q383 := eq_true q383
                                              obtain ⟨Ao77, co77, eo77⟩ := Kd.R_slice HO_8.out
                                              subst eo77
                                              have p384 : 0 ≤ ((rd t369 x12_3) : Int) := of_decide_eq_true (by first | (with_reducible assumption) | assumption)
                                              have q384 : (rd t369 x12_3) < (x8_2.length : Int) := of_decide_eq_true (by first | (with_reducible assumption) | assumption)
                                              obtain ⟨ad384, e384, hx384_0⟩ := Kd.at_int (Kd.R_reads' HO_8.out).2.2 (rd t369 x12_3) p384 q384
                                              cases e384
                                              replace p384 := eq_true p384
                                              replace q384 := eq_true q384
                                              have p385 : 0 ≤ (x12_3 : Int) := of_decide_eq_true (by first | (with_reducible assumption) | assumption)
                                              have q385 : x12_3 < (x8_2.length : Int) := of_decide_eq_true (by first | (with_reducible assumption) | assumption)
                                              obtain ⟨ad385, e385, hx385_0⟩ := Kd.at_int (Kd.R_reads' HO_8.out).2.2 x12_3 p385 q385
                                              obtain rfl : ad384 = ad385 := (by injection e385)
                                              replace p385 := eq_true p385
                                              replace q385 := eq_true q385
                                              go_wp2
                                              repeat (go_quiet (fail); try go_wp2)
                                              go_roundg k3
                                              case measure => have := HJ7.out; have := HK2.out; have := HK3.out; omega
                                              case rel => exact ⟨(wrap64 (x9_3 + 1)), (wrap64 (x12_3 + 1)), (by first | rfl | (simp; done) | (simp [*]; done)), (by first | rfl | (simp; done) | (simp [*]; done)), H', ⟨by have := HJ7.out; have := HK2.out; have := HK3.out; omega⟩, ⟨by (with_reducible repeat (first | apply Kd.R_alloc | apply Kd.R_drewN | apply Kd.R_drew)); exact HO_5.out⟩, ⟨by (with_reducible repeat (first | apply Kd.R_alloc | apply Kd.R_drewN | apply Kd.R_drew)); exact HO_6.out⟩, ⟨by (with_reducible repeat (first | apply Kd.R_alloc | apply Kd.R_drewN | apply Kd.R_drew)); exact HO_7.out⟩, ⟨by (with_reducible repeat (first | apply Kd.R_alloc | apply Kd.R_drewN | apply Kd.R_drew)); exact HO_8.out⟩, ⟨by repeat (first | (with_reducible first | exact HB.out | apply below_alloc | apply pw_below_drewN | apply below_drew1) | exact HB.out)⟩⟩
                                          · rw [if_neg c70] at H
                                            exact absurd H (by simp)
                                        · rw [if_neg c69] at H
                                          exact absurd H (by simp)
                                      · rw [if_neg c68] at H
                                        exact absurd H (by simp)
                                  · rw [if_neg c64] at H
                                    exact absurd H (by simp)
                                · rw [if_neg c63] at H
                                  have c63b0 : decide (0 < x12_3) = false := decide_eq_false c63
                                  clear c63
                                  have H' := Aside0.mk H
                                  clear H
                                  obtain ⟨Ao78, co78, eo78⟩ := Kd.R_slice HO_6.out
                                  subst eo78
                                  have p381 : 0 ≤ (x12_3 : Int) := of_decide_eq_true (by first | (with_reducible assumption) | assumption)
                                  have q381 : x12_3 < (t366.length : Int) := of_decide_eq_true (by first | (with_reducible assumption) | assumption)
                                  obtain ⟨ad381, e381, hx381_0⟩ := Kd.at_bool (Kd.R_reads' HO_6.out).2.2 x12_3 p381 q381
                                  (try rw [← Nbq61.out] at hx381_0)
                                  cases e381
                                  replace p381 := eq_true p381
                                  replace q381 := eq_true q381
                                  go_wp2
                                  repeat (go_quiet (fail); try go_wp2)
                                  go_roundg k3
                                  case measure => have := HJ7.out; have := HK2.out; have := HK3.out; omega
                                  case rel => exact ⟨(wrap64 (x9_3 + 1)), (wrap64 (x12_3 + 1)), (by first | rfl | (simp; done) | (simp [*]; done)), (by first | rfl | (simp; done) | (simp [*]; done)), H', ⟨by have := HJ7.out; have := HK2.out; have := HK3.out; omega⟩, ⟨by (with_reducible repeat (first | apply Kd.R_alloc | apply Kd.R_drewN | apply Kd.R_drew)); exact HO_5.out⟩, ⟨by (with_reducible repeat (first | apply Kd.R_alloc | apply Kd.R_drewN | apply Kd.R_drew)); exact HO_6.out⟩, ⟨by (with_reducible repeat (first | apply Kd.R_alloc | apply Kd.R_drewN | apply Kd.R_drew)); exact HO_7.out⟩, ⟨by (with_reducible repeat (first | apply Kd.R_alloc | apply Kd.R_drewN | apply Kd.R_drew)); exact HO_8.out⟩, ⟨by repeat (first | (with_reducible first | exact HB.out | apply below_alloc | apply pw_below_drewN | apply below_drew1) | exact HB.out)⟩⟩
                              · replace c62 := Bool.eq_false_iff.mpr c62
                                subst c62
                                have H1 : (if x12_3 < (t369.length : Int) then (if (rd t369 x12_3) = (-1) then (ferrulelaw11_GraphOrders.l1 k3 (ji29) t363 t366 t369 x8_2 x9_3 (wrap64 (x12_3 + 1))) else (some false)) else (none)) = some r := by rw [if_neg (show ¬ (false = true) by decide)] at H; exact H
                                clear H
                                have H := H1
                                clear H1
                                by_cases c79 : x12_3 < (t369.length : Int)
                                · rw [if_pos c79] at H
                                  have c79b0 : decide (x12_3 < (t369.length : Int)) = true := decide_eq_true c79
                                  clear c79
                                  by_cases c80 : (rd t369 x12_3) = (-1)
                                  · rw [if_pos c80] at H
                                    have c80b0 : ((rd t369 x12_3) == (-1)) = true := beq_iff_eq.mpr c80
                                    have c80b1 : ((rd t369 x12_3) != (-1)) = false := bne_eq_false_iff_eq.mpr c80
                                    clear c80
                                    have H' := Aside0.mk H
                                    clear H
                                    obtain ⟨Ao81, co81, eo81⟩ := Kd.R_slice HO_6.out
                                    subst eo81
                                    have p381 : 0 ≤ (x12_3 : Int) := of_decide_eq_true (by first | (with_reducible assumption) | assumption)
                                    have q381 : x12_3 < (t366.length : Int) := of_decide_eq_true (by first | (with_reducible assumption) | assumption)
                                    obtain ⟨ad381, e381, hx381_0⟩ := Kd.at_bool (Kd.R_reads' HO_6.out).2.2 x12_3 p381 q381
                                    (try rw [← Nbq61.out] at hx381_0)
                                    cases e381
                                    replace p381 := eq_true p381
                                    replace q381 := eq_true q381
                                    obtain ⟨Ao82, co82, eo82⟩ := Kd.R_slice HO_7.out
                                    subst eo82
                                    have p386 : 0 ≤ (x12_3 : Int) := of_decide_eq_true (by first | (with_reducible assumption) | assumption)
                                    have q386 : x12_3 < (t369.length : Int) := of_decide_eq_true (by first | (with_reducible assumption) | assumption)
                                    obtain ⟨ad386, e386, hx386_0⟩ := Kd.at_int (Kd.R_reads' HO_7.out).2.2 x12_3 p386 q386
                                    cases e386
                                    replace p386 := eq_true p386
                                    replace q386 := eq_true q386
                                    go_wp2
                                    repeat (go_quiet (fail); try go_wp2)
                                    go_roundg k3
                                    case measure => have := HJ7.out; have := HK2.out; have := HK3.out; omega
                                    case rel => exact ⟨(x9_3), (wrap64 (x12_3 + 1)), (by first | rfl | (simp; done) | (simp [*]; done)), (by first | rfl | (simp; done) | (simp [*]; done)), H', ⟨by have := HJ7.out; have := HK2.out; have := HK3.out; omega⟩, ⟨by (with_reducible repeat (first | apply Kd.R_alloc | apply Kd.R_drewN | apply Kd.R_drew)); exact HO_5.out⟩, ⟨by (with_reducible repeat (first | apply Kd.R_alloc | apply Kd.R_drewN | apply Kd.R_drew)); exact HO_6.out⟩, ⟨by (with_reducible repeat (first | apply Kd.R_alloc | apply Kd.R_drewN | apply Kd.R_drew)); exact HO_7.out⟩, ⟨by (with_reducible repeat (first | apply Kd.R_alloc | apply Kd.R_drewN | apply Kd.R_drew)); exact HO_8.out⟩, ⟨by repeat (first | (with_reducible first | exact HB.out | apply below_alloc | apply pw_below_drewN | apply below_drew1) | exact HB.out)⟩⟩
                                  · rw [if_neg c80] at H
                                    have c80b0 : ((rd t369 x12_3) == (-1)) = false := beq_eq_false_iff_ne.mpr c80
                                    have c80b1 : ((rd t369 x12_3) != (-1)) = true := bne_iff_ne.mpr c80
                                    obtain rfl := Option.some.inj H
                                    obtain ⟨Ao83, co83, eo83⟩ := Kd.R_slice HO_6.out
                                    subst eo83
                                    have p381 : 0 ≤ (x12_3 : Int) := of_decide_eq_true (by first | (with_reducible assumption) | assumption)
                                    have q381 : x12_3 < (t366.length : Int) := of_decide_eq_true (by first | (with_reducible assumption) | assumption)
                                    obtain ⟨ad381, e381, hx381_0⟩ := Kd.at_bool (Kd.R_reads' HO_6.out).2.2 x12_3 p381 q381
                                    (try rw [← Nbq61.out] at hx381_0)
                                    cases e381
                                    replace p381 := eq_true p381
                                    replace q381 := eq_true q381
                                    obtain ⟨Ao84, co84, eo84⟩ := Kd.R_slice HO_7.out
                                    subst eo84
                                    have p386 : 0 ≤ (x12_3 : Int) := of_decide_eq_true (by first | (with_reducible assumption) | assumption)
                                    have q386 : x12_3 < (t369.length : Int) := of_decide_eq_true (by first | (with_reducible assumption) | assumption)
                                    obtain ⟨ad386, e386, hx386_0⟩ := Kd.at_int (Kd.R_reads' HO_7.out).2.2 x12_3 p386 q386
                                    cases e386
                                    replace p386 := eq_true p386
                                    replace q386 := eq_true q386
                                    go_wp2
                                    repeat (go_quiet (fail); try go_wp2)
                                    go_ret
                                    exact ⟨by first | rfl | (simp [errW_none, errW_some] <;> rfl) | (simp only [← hji29]; first | rfl | (simp [errW_none, errW_some] <;> rfl)) | (simp [*, errW_none, errW_some] <;> rfl), by repeat (first | (with_reducible first | exact HB.out | apply below_alloc | apply pw_below_drewN | apply below_drew1) | exact HB.out)⟩
                                · rw [if_neg c79] at H
                                  exact absurd H (by simp)
                            · rw [if_neg c60] at H
                              exact absurd H (by simp)
                          · rw [if_neg c59] at H
                            exact absurd H (by simp)
                        · rw [if_neg c58] at H
                          have c58b0 : decide (x12_3 < (ji29)) = false := decide_eq_false c58
                          clear c58
                          obtain rfl := Option.some.inj H
                          go_wp2
                          repeat (go_quiet (fail); try go_wp2)
                          go_ret
                          exact ⟨by first | rfl | (simp [errW_none, errW_some] <;> rfl) | (simp only [← hji29]; first | rfl | (simp [errW_none, errW_some] <;> rfl)) | (simp [*, errW_none, errW_some] <;> rfl), by repeat (first | (with_reducible first | exact HB.out | apply below_alloc | apply pw_below_drewN | apply below_drew1) | exact HB.out)⟩
            · rw [if_neg c31] at H
              exact absurd H (by simp)
          · rw [if_neg c30] at H
            exact absurd H (by simp)
  · replace c4 := Bool.eq_false_iff.mpr c4
    subst c4
    have H1 : (some true) = some r := by rw [if_neg (show ¬ (false = true) by decide)] at H; exact H
    clear H
    have H := H1
    clear H1
    obtain rfl := Option.some.inj H
    go_enter Try.func9, Try.ntmps9
    go_wp2_with (first | (go_at_call 10; (with_reducible refine (ferrulelaw11_few.calls k _ _ l1 false _ ?side1 ?side2 A3.out).mono ?_); (case side1 => repeat (first | exact HR1.out | (with_reducible refine Kd.C_alloc ?_ _) | (with_reducible refine Kd.C_drewN ?_ _) | (with_reducible refine Kd.C_drew ?_))); (case side2 => exact HC1.out); rintro e w' ⟨rfl, ⟨nd, rfl⟩⟩; (try first | exact ⟨rfl, _, World.drewN_drewN _ _ _⟩ | exact ⟨rfl, _, Eq.trans (World.drewN_drewN _ _ _) (congrArg (World.drewN _) (Nat.add_assoc _ _ _))⟩)))
    repeat (go_quiet (first | (go_at_call 10; (with_reducible refine (ferrulelaw11_few.calls k _ _ l1 false _ ?side1 ?side2 A3.out).mono ?_); (case side1 => repeat (first | exact HR1.out | (with_reducible refine Kd.C_alloc ?_ _) | (with_reducible refine Kd.C_drewN ?_ _) | (with_reducible refine Kd.C_drew ?_))); (case side2 => exact HC1.out); rintro e w' ⟨rfl, ⟨nd, rfl⟩⟩; (try first | exact ⟨rfl, _, World.drewN_drewN _ _ _⟩ | exact ⟨rfl, _, Eq.trans (World.drewN_drewN _ _ _) (congrArg (World.drewN _) (Nat.add_assoc _ _ _))⟩))); try go_wp2_with (first | (go_at_call 10; (with_reducible refine (ferrulelaw11_few.calls k _ _ l1 false _ ?side1 ?side2 A3.out).mono ?_); (case side1 => repeat (first | exact HR1.out | (with_reducible refine Kd.C_alloc ?_ _) | (with_reducible refine Kd.C_drewN ?_ _) | (with_reducible refine Kd.C_drew ?_))); (case side2 => exact HC1.out); rintro e w' ⟨rfl, ⟨nd, rfl⟩⟩; (try first | exact ⟨rfl, _, World.drewN_drewN _ _ _⟩ | exact ⟨rfl, _, Eq.trans (World.drewN_drewN _ _ _) (congrArg (World.drewN _) (Nat.add_assoc _ _ _))⟩))))
    go_ret
    exact ⟨by first | rfl | (simp [errW_none, errW_some] <;> rfl) | (simp [*, errW_none, errW_some] <;> rfl), by repeat (first | (with_reducible first | exact HB.out | apply below_alloc | apply pw_below_drewN | apply below_drew1) | exact HB.out)⟩

end Go.Proofs.Ytafjbebbmfihaaa.P
