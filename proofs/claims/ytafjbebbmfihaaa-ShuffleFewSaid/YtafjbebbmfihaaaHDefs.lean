/- What the functions of package graph that the print does not take come to, as plain Lean functions with a number of rounds; no condition. -/
import Derived.Test.YtafjbebbmfihaaaPx0
import Derived.Test.YtafjbebbmfihaaaPx3
namespace Go.Proofs.Ytafjbebbmfihaaa.P
open Go.RowKit Go.Proofs.YtafjbebbmfihaaaW.PrintWords Go.Proofs.YtafjbebbmfihaaaW.PrintLast Go.Proofs.YtafjbebbmfihaaaW.PrintMore
set_option linter.unusedVariables false
set_option linter.unusedSimpArgs false
set_option linter.unusedSectionVars false

/-! ### graph.walk: which blocks were entered, in order; which were left, in order -/
mutual
def graph_walk.go : Nat → Int → List (List Int) → Int → List Int → List Int → Option (List Int × List Int)
  | 0, _, _, _, _, _ => none
  | k + 1, n, ts, i, seen, out => (graph_ways.f k n ts i).bind fun ws => if ws.length < 1000000 then graph_walk.lo k n ts i ws (seen ++ [i]) out else none
def graph_walk.lo : Nat → Int → List (List Int) → Int → List Int → List Int → List Int → Option (List Int × List Int)
  | 0, _, _, _, _, _, _ => none
  | k + 1, n, ts, i, ws, seen, out => match ws with
    | [] => if out.length < 1000000 then some (seen, out ++ [i]) else none
    | x :: ws => if x ∈ seen then graph_walk.lo k n ts i ws seen out else (graph_walk.go k n ts x seen out).bind fun st => graph_walk.lo k n ts i ws st.1 st.2
end
def graph_walk.f (k : Nat) (n : Int) (ts : List (List Int)) : Option (List Int × List Int) := if 0 < n then graph_walk.go k n ts 0 [] [] else some ([], [])
theorem graph_walk.mono_l : ∀ k, (∀ n ts i s o, LeO (graph_walk.go k n ts i s o) (graph_walk.go (k + 1) n ts i s o)) ∧ (∀ n ts i ws s o, LeO (graph_walk.lo k n ts i ws s o) (graph_walk.lo (k + 1) n ts i ws s o))
  | 0 => ⟨fun _ _ _ _ _ r h => by simp [graph_walk.go] at h, fun _ _ _ _ _ _ r h => by simp [graph_walk.lo] at h⟩
  | k + 1 => by
    obtain ⟨ih0, ih1⟩ := graph_walk.mono_l k
    refine ⟨?_, ?_⟩
    · intro n ts i s o
      unfold graph_walk.go
      exact LeO.bind (graph_ways.mono _ _ _ _) (fun _ => LeO.ite (ih1 _ _ _ _ _ _) (LeO.refl _))
    · intro n ts i ws s o
      unfold graph_walk.lo
      cases ws with
      | nil => exact LeO.refl _
      | cons x ws => exact LeO.ite (ih1 _ _ _ _ _ _) (LeO.bind (ih0 _ _ _ _ _) (fun _ => ih1 _ _ _ _ _ _))
theorem graph_walk.mono : ∀ n ts k, LeO (graph_walk.f k n ts) (graph_walk.f (k + 1) n ts) := by
  intro n ts k
  unfold graph_walk.f
  exact LeO.ite ((graph_walk.mono_l k).1 _ _ _ _ _) (LeO.refl _)

/-! ### graph.Reach, graph.Order -/
def graph_Reach.f (k : Nat) (n : Int) (ts : List (List Int)) : Option (List Bool) :=
  if n ≤ 1000000 then (graph_walk.f k n ts).bind fun st => some ((List.range n.toNat).map fun (i : Nat) => decide ((i : Int) ∈ st.1)) else none
theorem graph_Reach.mono : ∀ n ts k, LeO (graph_Reach.f k n ts) (graph_Reach.f (k + 1) n ts) := by
  intro n ts k
  unfold graph_Reach.f
  exact LeO.ite (LeO.bind (graph_walk.mono _ _ _) (fun _ => LeO.refl _)) (LeO.refl _)
def graph_Order.f (k : Nat) (n : Int) (ts : List (List Int)) : Option (List Int) := (graph_walk.f k n ts).bind fun st => if st.2.length < 1000000 then some st.2.reverse else none
theorem graph_Order.mono : ∀ n ts k, LeO (graph_Order.f k n ts) (graph_Order.f (k + 1) n ts) := by
  intro n ts k
  unfold graph_Order.f
  exact LeO.bind (graph_walk.mono _ _ _) (fun _ => LeO.refl _)

/-! ### graph.From -/
def graph_From.row (i : Int) : List Int → List Int → List (List Int) → Option (List (List Int))
  | [], _, l => some l
  | x :: ws, seen, l => if x ∈ seen then graph_From.row i ws seen l else if 0 ≤ x ∧ x < l.length ∧ (rd_L1 l x).length < 1000000 then graph_From.row i ws (seen ++ [x]) (l.set x.toNat (rd_L1 l x ++ [i])) else none
def graph_From.lo : Nat → Int → List (List Int) → Int → List (List Int) → Option (List (List Int))
  | 0, _, _, _, _ => none
  | k + 1, n, ts, i, l => if i < n then (graph_ways.f k n ts i).bind fun ws => (if ws.length < 1000000 then graph_From.row i ws [] l else none).bind fun l => graph_From.lo k n ts (i + 1) l else some l
def graph_From.f (k : Nat) (n : Int) (ts : List (List Int)) : Option (List (List Int)) := if n ≤ 1000000 then graph_From.lo k n ts 0 (List.replicate n.toNat []) else none
theorem graph_From.mono_l : ∀ k n ts i l, LeO (graph_From.lo k n ts i l) (graph_From.lo (k + 1) n ts i l)
  | 0 => fun _ _ _ _ r h => by simp [graph_From.lo] at h
  | k + 1 => by
    intro n ts i l
    unfold graph_From.lo
    exact LeO.ite (LeO.bind (graph_ways.mono _ _ _ _) (fun _ => LeO.bind (LeO.refl _) (fun _ => graph_From.mono_l k _ _ _ _))) (LeO.refl _)
theorem graph_From.mono : ∀ n ts k, LeO (graph_From.f k n ts) (graph_From.f (k + 1) n ts) := by
  intro n ts k
  unfold graph_From.f
  exact LeO.ite (graph_From.mono_l _ _ _ _ _) (LeO.refl _)

/-! ### graph.Doms -/
/-- May place and near be asked at a? -/
def inB (place near : List Int) (a : Int) : Prop := 0 ≤ a ∧ a < place.length ∧ a < near.length
instance (place near : List Int) (a : Int) : Decidable (inB place near a) := by unfold inB; exact inferInstance
def graph_Doms.meet : Nat → List Int → List Int → Int → Int → Option Int
  | 0, _, _, _, _ => none
  | k + 1, place, near, a, b => if a = b then some a else if inB place near a ∧ inB place near b then (if rd place b < rd place a then graph_Doms.meet k place near (rd near a) b else graph_Doms.meet k place near a (rd near b)) else none
def graph_Doms.best : Nat → List Int → List Int → List Int → Int → Option Int
  | _, _, _, [], best => some best
  | k, place, near, p :: ps, best => if inB place near p then (if rd place p < 0 ∨ (p ≠ 0 ∧ rd near p < 0) then graph_Doms.best k place near ps best else if best < 0 then graph_Doms.best k place near ps p else (graph_Doms.meet k place near best p).bind fun q => graph_Doms.best k place near ps q) else none
def graph_Doms.pass : Nat → List Int → List (List Int) → List Int → List Int → Bool → Option (List Int × Bool)
  | _, _, _, [], near, again => some (near, again)
  | k, place, frm, b :: bs, near, again => if 0 ≤ b ∧ b < frm.length ∧ b < near.length then (graph_Doms.best k place near (rd_L1 frm b) (-1)).bind fun q => (if rd near b = q then graph_Doms.pass k place frm bs near again else graph_Doms.pass k place frm bs (near.set b.toNat q) true) else none
def graph_Doms.lo : Nat → List Int → List (List Int) → List Int → List Int → Option (List Int)
  | 0, _, _, _, _ => none
  | k + 1, place, frm, bs, near => (graph_Doms.pass k place frm bs near false).bind fun r => if r.2 = true then graph_Doms.lo k place frm bs r.1 else some r.1
/-- the places in an order, from i on -/
def graph_Doms.places : List Int → Int → List Int → Option (List Int)
  | [], _, place => some place
  | b :: bs, i, place => if 0 ≤ b ∧ b < place.length then graph_Doms.places bs (i + 1) (place.set b.toNat i) else none
def graph_Doms.f (k : Nat) (n : Int) (ts : List (List Int)) : Option (List Int) :=
  if n ≤ 1000000 then (graph_Order.f k n ts).bind fun order => (graph_From.f k n ts).bind fun frm => (if order.length < 1000000 then (graph_Doms.places order 0 (List.replicate n.toNat (-1))).bind fun place => graph_Doms.lo k place frm (order.drop 1) (List.replicate n.toNat (-1)) else none) else none
theorem graph_Doms.mono_meet : ∀ k place near a b, LeO (graph_Doms.meet k place near a b) (graph_Doms.meet (k + 1) place near a b)
  | 0 => fun _ _ _ _ r h => by simp [graph_Doms.meet] at h
  | k + 1 => by
    intro place near a b
    unfold graph_Doms.meet
    exact LeO.ite (LeO.refl _) (LeO.ite (LeO.ite (graph_Doms.mono_meet k _ _ _ _) (graph_Doms.mono_meet k _ _ _ _)) (LeO.refl _))
theorem graph_Doms.mono_best (k : Nat) (place near : List Int) : ∀ ps best, LeO (graph_Doms.best k place near ps best) (graph_Doms.best (k + 1) place near ps best)
  | [], best => by unfold graph_Doms.best; exact LeO.refl _
  | p :: ps, best => by
    unfold graph_Doms.best
    exact LeO.ite (LeO.ite (graph_Doms.mono_best k place near ps _) (LeO.ite (graph_Doms.mono_best k place near ps _) (LeO.bind (graph_Doms.mono_meet _ _ _ _ _) (fun _ => graph_Doms.mono_best k place near ps _)))) (LeO.refl _)
theorem graph_Doms.mono_pass (k : Nat) (place : List Int) (frm : List (List Int)) : ∀ bs near again, LeO (graph_Doms.pass k place frm bs near again) (graph_Doms.pass (k + 1) place frm bs near again)
  | [], near, again => by unfold graph_Doms.pass; exact LeO.refl _
  | b :: bs, near, again => by
    unfold graph_Doms.pass
    exact LeO.ite (LeO.bind (graph_Doms.mono_best _ _ _ _ _) (fun _ => LeO.ite (graph_Doms.mono_pass k place frm bs _ _) (graph_Doms.mono_pass k place frm bs _ _))) (LeO.refl _)
theorem graph_Doms.mono_l : ∀ k place frm bs near, LeO (graph_Doms.lo k place frm bs near) (graph_Doms.lo (k + 1) place frm bs near)
  | 0 => fun _ _ _ _ r h => by simp [graph_Doms.lo] at h
  | k + 1 => by
    intro place frm bs near
    unfold graph_Doms.lo
    exact LeO.bind (graph_Doms.mono_pass _ _ _ _ _ _) (fun _ => LeO.ite (graph_Doms.mono_l k _ _ _ _) (LeO.refl _))
theorem graph_Doms.mono : ∀ n ts k, LeO (graph_Doms.f k n ts) (graph_Doms.f (k + 1) n ts) := by
  intro n ts k
  unfold graph_Doms.f
  exact LeO.ite (LeO.bind (graph_Order.mono _ _ _) (fun _ => LeO.bind (graph_From.mono _ _ _) (fun _ => LeO.ite (LeO.bind (LeO.refl _) (fun _ => graph_Doms.mono_l _ _ _ _ _)) (LeO.refl _)))) (LeO.refl _)
end Go.Proofs.Ytafjbebbmfihaaa.P
