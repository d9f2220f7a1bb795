/- lex.Word tells whether a text is a word of the language; the library's table of blanks is as it was laid. -/
import Derived.Test.YtafjbebbmfihaaaDoorHWords
namespace Go.Proofs.YtafjbebbmfihaaaDoor.P
open Go.RowKit Go.Proofs.YtafjbebbmfihaaaDoorW.PrintWords Go.Proofs.YtafjbebbmfihaaaDoorW.PrintLast Go.Proofs.YtafjbebbmfihaaaDoorW.PrintMore
set_option linter.unusedVariables false
set_option linter.unusedSimpArgs false
set_option linter.unusedSectionVars false
theorem zero4 : ∀ w : World, (zeroValue 4).run Tryd.prog w = .ok (.bool false) w := fun w => by
  have h := Tryd.zeroValue4
  exact h w
/-- The table of blanks stands, whatever is made. -/
abbrev Gl (w : World) : Prop := Lib.TabBelow Tryd.prog w.heap.size w "strings.asciiSpace" .u8 Lib.asciiSpaceTab
theorem Gl.below {w w1 : World} (h : Gl w) (hb : Below w.heap.size w w1) : Gl w1 := fun w' h' => h _ (hb.trans (h'.mono hb.size))
def lex_Word.f (_k : Nat) (s : ByteArray) : Option Bool := some (decide (s ∈ kwList))
theorem lex_Word.mono : ∀ s k, LeO (lex_Word.f k s) (lex_Word.f (k + 1) s) := fun _ _ => LeO.refl _
set_option maxHeartbeats 2000000 in
set_option maxRecDepth 100000 in
theorem lex_Word.calls (k : Nat) (a0 : ByteArray) (r : Bool) (w : World) (hG : Gl w) (h : lex_Word.f k a0 = some r) :
    Calls Tryd.prog 13 #[.string a0] w fun e w' => e = .returned (.bool r) ∧ Below w.heap.size w w' := by
  have h : decide (a0 ∈ kwList) = r := Option.some.inj h
  have H := Aside0.mk h
  have HG := Aside0.mk hG
  clear h hG
  go_enter Tryd.func13, Tryd.ntmps13
  go_wp2_with (first
    | (go_at_call 16; go_must (refine (words_calls w HG.out).mono ?_; rintro e w' ⟨b, rfl, hM, hb, hB⟩; have HM := Aside0.mk hM; have HB := Aside0.mk hB; clear hM hb hB))
    | (at_lookup; go_must (refine wpList_tm_look rfl _ _ 44 9 4 false rfl Tryd.underlying44 Tryd.underlying9 (.bool false) zero4 b (tset kwList) rfl HM.out a0 rfl ?_; simp only [Bool.false_eq_true, if_false, tmGet_tset, H.out])))
  go_ret
  exact ⟨rfl, HB.out⟩
end Go.Proofs.YtafjbebbmfihaaaDoor.P
