/-
  No cell of these rows narrows 'for every input' (looked for: loops, veiled, ifaces, maps, wideKeys, modest, calm, conditions, laid).
  DERIVED. THE GIVEN ROWS OF THIS SEAT. 7 by the template 'for every input the law returns true; each argument reads behind the call as it read before'; 0 by the template 'total and deterministic' (their statements: YtafjbebbmfihaaaTotals.lean).
  GIVEN WITH THE SEED: the statements are not yours to turn. If you find one false, say at which input.
  Laid BY PROGRAM, IN A SANDBOX (cutbox-rows.mjs): the forced cells as the released guide's own fill.sh prints them over the translation 05116fac07b6128c… (all of the seat's roots in one cut). By AI agents, Wed Nov 11 2026. No macro, syntax, notation, axiom, sorry.
-/
import Derived.Test.YtafjbebbmfihaaaChecked
import GoSem.Claim
import GoSem.ClaimJoined
import GoSem.ClaimMapViews
import Derived.JoinedTies
import Derived.KernelRfl
namespace Go.Proofs.Ytafjbebbmfihaaa
/- THE CELL 'sum', in the pinned program and in every row, IS THE sha256 OF THE DUMP (.gsa) THAT YtafjbebbmfihaaaProg.lean LOADS. Nothing in Lean hashes anything: it is a label: what it is worth is what the hold of that sum in a sandbox is worth. -/
noncomputable def Try.pinned : Pinned := { name := "ytafjbebbmfihaaa", sum := "05116fac07b6128c56ac2f5ff02bef94133c7ebc3d30b1f3f303ff2178e0ac9b", checked := Try.checked }
namespace Rows
def none {H : Type} : Left H := { results := [], args := [] }

/-- 'ferrulelaw11.GraphCloses': WHATEVER THE INPUT: true; the input reads as it did. -/
def graphClosesSpec : ChangeSpec := { name := "graphCloses", fn := fun _ => fun
  | [d1, d2] => { results := [.lit (.bool true)], args := [d1, d2] }
  | _ => none }
def graphClosesRow : OpenClaim := { program := "ytafjbebbmfihaaa", sum := "05116fac07b6128c56ac2f5ff02bef94133c7ebc3d30b1f3f303ff2178e0ac9b", func := "ferrule/ferrulelaw11.GraphCloses", spec := "graphCloses", unfollowed := true, recurses := true, apart := false }
def GraphClosesSaid : Prop := graphClosesRow.holds Try.pinned (OpenSpec.ofChange graphClosesSpec)

/-- ITS FALSE NEIGHBOUR: 'it returns false'. Refute it at one input. -/
def graphClosesWrong : ChangeSpec := { name := "graphCloses", fn := fun _ => fun
  | [d1, d2] => { results := [.lit (.bool false)], args := [d1, d2] }
  | _ => none }
def GraphClosesWrongFalsely : Prop := graphClosesRow.holds Try.pinned (OpenSpec.ofChange graphClosesWrong)

/-- 'ferrulelaw20.ShuffleFew': WHATEVER THE INPUT: true; the input reads as it did. -/
def shuffleFewSpec : ChangeSpec := { name := "shuffleFew", fn := fun _ => fun
  | [d1, d2] => { results := [.lit (.bool true)], args := [d1, d2] }
  | _ => none }
def shuffleFewRow : OpenClaim := { program := "ytafjbebbmfihaaa", sum := "05116fac07b6128c56ac2f5ff02bef94133c7ebc3d30b1f3f303ff2178e0ac9b", func := "ferrule/ferrulelaw20.ShuffleFew", spec := "shuffleFew", unfollowed := true, recurses := true, apart := false }
def ShuffleFewSaid : Prop := shuffleFewRow.holds Try.pinned (OpenSpec.ofChange shuffleFewSpec)

/-- ITS FALSE NEIGHBOUR: 'it returns false'. Refute it at one input. -/
def shuffleFewWrong : ChangeSpec := { name := "shuffleFew", fn := fun _ => fun
  | [d1, d2] => { results := [.lit (.bool false)], args := [d1, d2] }
  | _ => none }
def ShuffleFewWrongFalsely : Prop := shuffleFewRow.holds Try.pinned (OpenSpec.ofChange shuffleFewWrong)

/-- 'ferrulelaw20.ShuffleCircle': WHATEVER THE INPUT: true; the input reads as it did. -/
def shuffleCircleSpec : ChangeSpec := { name := "shuffleCircle", fn := fun _ => fun
  | [d1, d2] => { results := [.lit (.bool true)], args := [d1, d2] }
  | _ => none }
def shuffleCircleRow : OpenClaim := { program := "ytafjbebbmfihaaa", sum := "05116fac07b6128c56ac2f5ff02bef94133c7ebc3d30b1f3f303ff2178e0ac9b", func := "ferrule/ferrulelaw20.ShuffleCircle", spec := "shuffleCircle", unfollowed := true, recurses := true, apart := false }
def ShuffleCircleSaid : Prop := shuffleCircleRow.holds Try.pinned (OpenSpec.ofChange shuffleCircleSpec)

/-- ITS FALSE NEIGHBOUR: 'it returns false'. Refute it at one input. -/
def shuffleCircleWrong : ChangeSpec := { name := "shuffleCircle", fn := fun _ => fun
  | [d1, d2] => { results := [.lit (.bool false)], args := [d1, d2] }
  | _ => none }
def ShuffleCircleWrongFalsely : Prop := shuffleCircleRow.holds Try.pinned (OpenSpec.ofChange shuffleCircleWrong)

/-- 'ferrulelaw20.ShuffleStill': WHATEVER THE INPUT: true; the input reads as it did. -/
def shuffleStillSpec : ChangeSpec := { name := "shuffleStill", fn := fun _ => fun
  | [d1, d2] => { results := [.lit (.bool true)], args := [d1, d2] }
  | _ => none }
def shuffleStillRow : OpenClaim := { program := "ytafjbebbmfihaaa", sum := "05116fac07b6128c56ac2f5ff02bef94133c7ebc3d30b1f3f303ff2178e0ac9b", func := "ferrule/ferrulelaw20.ShuffleStill", spec := "shuffleStill", unfollowed := true, recurses := true, apart := false }
def ShuffleStillSaid : Prop := shuffleStillRow.holds Try.pinned (OpenSpec.ofChange shuffleStillSpec)

/-- ITS FALSE NEIGHBOUR: 'it returns false'. Refute it at one input. -/
def shuffleStillWrong : ChangeSpec := { name := "shuffleStill", fn := fun _ => fun
  | [d1, d2] => { results := [.lit (.bool false)], args := [d1, d2] }
  | _ => none }
def ShuffleStillWrongFalsely : Prop := shuffleStillRow.holds Try.pinned (OpenSpec.ofChange shuffleStillWrong)

/-- 'ferrulelaw11.GraphLines': WHATEVER THE INPUT: true; the input reads as it did. -/
def graphLinesSpec : ChangeSpec := { name := "graphLines", fn := fun _ => fun
  | [d1, d2, d3] => { results := [.lit (.bool true)], args := [d1, d2, d3] }
  | _ => none }
def graphLinesRow : OpenClaim := { program := "ytafjbebbmfihaaa", sum := "05116fac07b6128c56ac2f5ff02bef94133c7ebc3d30b1f3f303ff2178e0ac9b", func := "ferrule/ferrulelaw11.GraphLines", spec := "graphLines", unfollowed := true, recurses := true, apart := false }
def GraphLinesSaid : Prop := graphLinesRow.holds Try.pinned (OpenSpec.ofChange graphLinesSpec)

/-- ITS FALSE NEIGHBOUR: 'it returns false'. Refute it at one input. -/
def graphLinesWrong : ChangeSpec := { name := "graphLines", fn := fun _ => fun
  | [d1, d2, d3] => { results := [.lit (.bool false)], args := [d1, d2, d3] }
  | _ => none }
def GraphLinesWrongFalsely : Prop := graphLinesRow.holds Try.pinned (OpenSpec.ofChange graphLinesWrong)

/-- 'ferrulelaw11.GraphTells': WHATEVER THE INPUT: true; the input reads as it did. -/
def graphTellsSpec : ChangeSpec := { name := "graphTells", fn := fun _ => fun
  | [d1, d2] => { results := [.lit (.bool true)], args := [d1, d2] }
  | _ => none }
def graphTellsRow : OpenClaim := { program := "ytafjbebbmfihaaa", sum := "05116fac07b6128c56ac2f5ff02bef94133c7ebc3d30b1f3f303ff2178e0ac9b", func := "ferrule/ferrulelaw11.GraphTells", spec := "graphTells", unfollowed := true, recurses := true, apart := false }
def GraphTellsSaid : Prop := graphTellsRow.holds Try.pinned (OpenSpec.ofChange graphTellsSpec)

/-- ITS FALSE NEIGHBOUR: 'it returns false'. Refute it at one input. -/
def graphTellsWrong : ChangeSpec := { name := "graphTells", fn := fun _ => fun
  | [d1, d2] => { results := [.lit (.bool false)], args := [d1, d2] }
  | _ => none }
def GraphTellsWrongFalsely : Prop := graphTellsRow.holds Try.pinned (OpenSpec.ofChange graphTellsWrong)

/-- 'ferrulelaw11.GraphOrders': WHATEVER THE INPUT: true; the input reads as it did. -/
def graphOrdersSpec : ChangeSpec := { name := "graphOrders", fn := fun _ => fun
  | [d1, d2] => { results := [.lit (.bool true)], args := [d1, d2] }
  | _ => none }
def graphOrdersRow : OpenClaim := { program := "ytafjbebbmfihaaa", sum := "05116fac07b6128c56ac2f5ff02bef94133c7ebc3d30b1f3f303ff2178e0ac9b", func := "ferrule/ferrulelaw11.GraphOrders", spec := "graphOrders", unfollowed := true, recurses := true, apart := false }
def GraphOrdersSaid : Prop := graphOrdersRow.holds Try.pinned (OpenSpec.ofChange graphOrdersSpec)

/-- ITS FALSE NEIGHBOUR: 'it returns false'. Refute it at one input. -/
def graphOrdersWrong : ChangeSpec := { name := "graphOrders", fn := fun _ => fun
  | [d1, d2] => { results := [.lit (.bool false)], args := [d1, d2] }
  | _ => none }
def GraphOrdersWrongFalsely : Prop := graphOrdersRow.holds Try.pinned (OpenSpec.ofChange graphOrdersWrong)

/- THE SECOND FORM. 'bulk': how many values and letters a reading holds, each counted each time it is reached (what is shared counts as often as it is met; a slice's spare places count too). A statement '..UptoSaid' is the law's where the arguments, and the package variables that the reading takes, are together of bulk at most 1048576: NARROWER than '..Said'. Prove '..Said' where nothing that the law and all that it calls make is longer than what came in: it says more and counts as full. Else prove '..UptoSaid'. A law counts once. -/
mutual
def uptoBulk {H : Type} : DataW H → Nat
  | .lit (.string bytes) => bytes.length + 1
  | .lit _ => 1
  | .nil => 1
  | .ptr d => uptoBulk d + 1
  | .slice elems spare => uptoBulkAll elems + uptoBulkAll spare + 1
  | .agg parts => uptoBulkAll parts + 1
  | .iface _ d => uptoBulk d + 1
  | .map entries => uptoBulkEntries entries + 1
  | .held _ => 1
def uptoBulkAll {H : Type} : List (DataW H) → Nat
  | [] => 0
  | d :: r => uptoBulk d + uptoBulkAll r
def uptoBulkEntries {H : Type} : List (Lit × DataW H) → Nat
  | [] => 0
  | x :: r => uptoBulkEntry x + uptoBulkEntries r
def uptoBulkEntry {H : Type} : Lit × DataW H → Nat
  | (.string bytes, d) => bytes.length + uptoBulk d + 1
  | (_, d) => uptoBulk d + 1
 end
def uptoSmall : (H : Type) → List (DataW H) → Bool := fun _ ds => decide (uptoBulkAll ds ≤ 1048576)
def OpenSpec.upto (s : _root_.Go.ChangeSpec) : _root_.Go.OpenSpec := { _root_.Go.OpenSpec.ofChange s with cond := some uptoSmall }

/-- 'ferrulelaw11.GraphCloses', WHERE WHAT IT READS IS OF BULK AT MOST 1048576: true; the input reads as it did. -/
def graphClosesUptoRow : OpenClaim := { program := "ytafjbebbmfihaaa", sum := "05116fac07b6128c56ac2f5ff02bef94133c7ebc3d30b1f3f303ff2178e0ac9b", func := "ferrule/ferrulelaw11.GraphCloses", spec := "graphCloses", unfollowed := true, recurses := true, apart := false, narrowed := true }
def GraphClosesUptoSaid : Prop := graphClosesUptoRow.holds Try.pinned (OpenSpec.upto graphClosesSpec)

/-- 'ferrulelaw20.ShuffleFew', WHERE WHAT IT READS IS OF BULK AT MOST 1048576: true; the input reads as it did. -/
def shuffleFewUptoRow : OpenClaim := { program := "ytafjbebbmfihaaa", sum := "05116fac07b6128c56ac2f5ff02bef94133c7ebc3d30b1f3f303ff2178e0ac9b", func := "ferrule/ferrulelaw20.ShuffleFew", spec := "shuffleFew", unfollowed := true, recurses := true, apart := false, narrowed := true }
def ShuffleFewUptoSaid : Prop := shuffleFewUptoRow.holds Try.pinned (OpenSpec.upto shuffleFewSpec)

/-- 'ferrulelaw20.ShuffleCircle', WHERE WHAT IT READS IS OF BULK AT MOST 1048576: true; the input reads as it did. -/
def shuffleCircleUptoRow : OpenClaim := { program := "ytafjbebbmfihaaa", sum := "05116fac07b6128c56ac2f5ff02bef94133c7ebc3d30b1f3f303ff2178e0ac9b", func := "ferrule/ferrulelaw20.ShuffleCircle", spec := "shuffleCircle", unfollowed := true, recurses := true, apart := false, narrowed := true }
def ShuffleCircleUptoSaid : Prop := shuffleCircleUptoRow.holds Try.pinned (OpenSpec.upto shuffleCircleSpec)

/-- 'ferrulelaw20.ShuffleStill', WHERE WHAT IT READS IS OF BULK AT MOST 1048576: true; the input reads as it did. -/
def shuffleStillUptoRow : OpenClaim := { program := "ytafjbebbmfihaaa", sum := "05116fac07b6128c56ac2f5ff02bef94133c7ebc3d30b1f3f303ff2178e0ac9b", func := "ferrule/ferrulelaw20.ShuffleStill", spec := "shuffleStill", unfollowed := true, recurses := true, apart := false, narrowed := true }
def ShuffleStillUptoSaid : Prop := shuffleStillUptoRow.holds Try.pinned (OpenSpec.upto shuffleStillSpec)

/-- 'ferrulelaw11.GraphLines', WHERE WHAT IT READS IS OF BULK AT MOST 1048576: true; the input reads as it did. -/
def graphLinesUptoRow : OpenClaim := { program := "ytafjbebbmfihaaa", sum := "05116fac07b6128c56ac2f5ff02bef94133c7ebc3d30b1f3f303ff2178e0ac9b", func := "ferrule/ferrulelaw11.GraphLines", spec := "graphLines", unfollowed := true, recurses := true, apart := false, narrowed := true }
def GraphLinesUptoSaid : Prop := graphLinesUptoRow.holds Try.pinned (OpenSpec.upto graphLinesSpec)

/-- 'ferrulelaw11.GraphTells', WHERE WHAT IT READS IS OF BULK AT MOST 1048576: true; the input reads as it did. -/
def graphTellsUptoRow : OpenClaim := { program := "ytafjbebbmfihaaa", sum := "05116fac07b6128c56ac2f5ff02bef94133c7ebc3d30b1f3f303ff2178e0ac9b", func := "ferrule/ferrulelaw11.GraphTells", spec := "graphTells", unfollowed := true, recurses := true, apart := false, narrowed := true }
def GraphTellsUptoSaid : Prop := graphTellsUptoRow.holds Try.pinned (OpenSpec.upto graphTellsSpec)

/-- 'ferrulelaw11.GraphOrders', WHERE WHAT IT READS IS OF BULK AT MOST 1048576: true; the input reads as it did. -/
def graphOrdersUptoRow : OpenClaim := { program := "ytafjbebbmfihaaa", sum := "05116fac07b6128c56ac2f5ff02bef94133c7ebc3d30b1f3f303ff2178e0ac9b", func := "ferrule/ferrulelaw11.GraphOrders", spec := "graphOrders", unfollowed := true, recurses := true, apart := false, narrowed := true }
def GraphOrdersUptoSaid : Prop := graphOrdersUptoRow.holds Try.pinned (OpenSpec.upto graphOrdersSpec)

end Rows
end Go.Proofs.Ytafjbebbmfihaaa
