/- What the functions of package shuffle that the print does not take come to, as plain Lean functions with a number of rounds; no condition. -/
import Derived.Test.YtafjbebbmfihaaaPx0
namespace Go.Proofs.Ytafjbebbmfihaaa.P
open Go.RowKit Go.Proofs.YtafjbebbmfihaaaW.PrintWords Go.Proofs.YtafjbebbmfihaaaW.PrintLast Go.Proofs.YtafjbebbmfihaaaW.PrintMore
set_option linter.unusedVariables false
set_option linter.unusedSimpArgs false
set_option linter.unusedSectionVars false

/-! ### shuffle.Line: 'left': the map of what is still to be moved, as a list of pairs in the order of its entries -/
/-- what the map holds at a key -/
def lf_get (left : List (Int × Int)) (a : Int) : Option Int := (left.find? fun p => p.1 == a).map (·.2)
def lf_del (left : List (Int × Int)) (a : Int) : List (Int × Int) := left.filter fun p => p.1 != a
def lf_read (left : List (Int × Int)) (a : Int) : Bool := left.any fun p => p.2 == a
/-- one pass of free over the order -/
def shuffle_Line.pass : List Int → List (Int × Int) → List S38 → Bool → List (Int × Int) × List S38 × Bool
  | [], left, out, again => (left, out, again)
  | a :: us, left, out, again => match lf_get left a with
    | none => shuffle_Line.pass us left out again
    | some b => if lf_read left a = true then shuffle_Line.pass us left out again else shuffle_Line.pass us (lf_del left a) (out ++ [⟨a, b⟩]) true
def shuffle_Line.free : Nat → List Int → List (Int × Int) → List S38 → Option (List (Int × Int) × List S38)
  | 0, _, _, _ => none
  | k + 1, order, left, out => let r := shuffle_Line.pass order left out false; if r.2.2 = true then shuffle_Line.free k order r.1 r.2.1 else some (r.1, r.2.1)
/-- the circles -/
def shuffle_Line.circ : Nat → Int → List Int → List Int → List (Int × Int) → List S38 → Option (List S38)
  | _, _, _, [], _, out => some out
  | k, spare, order, a :: us, left, out => match lf_get left a with
    | none => shuffle_Line.circ k spare order us left out
    | some _ => (shuffle_Line.free k order (left.map fun p => if p.2 = a then (p.1, spare) else p) (out ++ [⟨spare, a⟩])).bind fun r => shuffle_Line.circ k spare order us r.1 r.2
/-- the moves are read: none, if one is wrong -/
def shuffle_Line.take : List S38 → Int → List Int → List (Int × Int) → List Int → Option (List (Int × Int) × List Int)
  | [], _, _, left, order => some (left, order)
  | m :: l, spare, seen, left, order => if m.f0 ∈ seen ∨ m.f0 = spare ∨ m.f1 = spare then none else
    if m.f0 = m.f1 then shuffle_Line.take l spare (seen ++ [m.f0]) left order else shuffle_Line.take l spare (seen ++ [m.f0]) (left ++ [(m.f0, m.f1)]) (order ++ [m.f0])
def shuffle_Line.f (k : Nat) (l : List S38) (spare : Int) : Option (List S38 × Int) := if l.length < 1000000 then
    match shuffle_Line.take l spare [] [] [] with
    | none => some ([], 10)
    | some (left, order) => (shuffle_Line.free k order left []).bind fun r => (shuffle_Line.circ k spare order order r.1 r.2).bind fun out => some (out, 0)
  else none
theorem shuffle_Line.mono_free : ∀ k order left out, LeO (shuffle_Line.free k order left out) (shuffle_Line.free (k + 1) order left out)
  | 0 => fun _ _ _ r h => by simp [shuffle_Line.free] at h
  | k + 1 => by
    intro order left out
    unfold shuffle_Line.free
    exact LeO.ite (shuffle_Line.mono_free k _ _ _) (LeO.refl _)
theorem shuffle_Line.mono_circ (k : Nat) (spare : Int) (order : List Int) : ∀ us left out, LeO (shuffle_Line.circ k spare order us left out) (shuffle_Line.circ (k + 1) spare order us left out)
  | [], left, out => by unfold shuffle_Line.circ; exact LeO.refl _
  | a :: us, left, out => by
    unfold shuffle_Line.circ
    split
    · exact shuffle_Line.mono_circ k spare order us _ _
    · exact LeO.bind (shuffle_Line.mono_free _ _ _ _) (fun _ => shuffle_Line.mono_circ k spare order us _ _)
theorem shuffle_Line.mono : ∀ l spare k, LeO (shuffle_Line.f k l spare) (shuffle_Line.f (k + 1) l spare) := by
  intro l spare k
  unfold shuffle_Line.f
  refine LeO.ite ?_ (LeO.refl _)
  split
  · exact LeO.refl _
  · exact LeO.bind (shuffle_Line.mono_free _ _ _ _) (fun _ => LeO.bind (shuffle_Line.mono_circ _ _ _ _ _ _) (fun _ => LeO.refl _))

/-! ### ferrulelaw20.after: 'h': what places hold: f0 the place, f1 what it holds -/
def after_look : List S38 → Int → Int
  | [], a => a
  | p :: h, a => if p.f0 = a then p.f1 else after_look h a
def after_upd (h : List S38) (a v : Int) : List S38 := h.map fun p => if p.f0 = a then ⟨p.f0, v⟩ else p
def after_put (h : List S38) (a v : Int) : List S38 := if h.any (fun p => p.f0 == a) = true then after_upd h a v else h ++ [⟨a, v⟩]
def after_run : List S38 → List S38 → List S38
  | [], h => h
  | m :: l, h => after_run l (after_put h m.f0 (after_look h m.f1))
def ferrulelaw20_after.f (_k : Nat) (l : List S38) (a : Int) : Option Int := if l.length < 1000000 then some (after_look (after_run l []) a) else none
theorem ferrulelaw20_after.mono : ∀ l a k, LeO (ferrulelaw20_after.f k l a) (ferrulelaw20_after.f (k + 1) l a) := fun _ _ _ => LeO.refl _
end Go.Proofs.Ytafjbebbmfihaaa.P
