/- The three kinds of bytes that span is asked for; no condition. -/
import Derived.Test.YtafjbebbmfihaaaDoorHSpan
import Derived.Test.YtafjbebbmfihaaaDoorPx16
namespace Go.Proofs.YtafjbebbmfihaaaDoor.P
open Go.RowKit Go.Proofs.YtafjbebbmfihaaaDoorW.PrintWords Go.Proofs.YtafjbebbmfihaaaDoorW.PrintLast Go.Proofs.YtafjbebbmfihaaaDoorW.PrintMore
set_option linter.unusedVariables false
set_option linter.unusedSimpArgs false
set_option linter.unusedSectionVars false
def notEnd (c : Int) : Bool := c != 10
theorem enters29 (args : Array Value) (w : World) : (callFunc 29 args).run Tryd.prog w = .ok (.enter 29 args) w := by go_simp
set_option maxHeartbeats 1000000 in
theorem pred29 : Pred 29 notEnd where
  enters := enters29
  call := fun c w _ _ => by
    go_enter Tryd.func29, Tryd.ntmps29
    go_wp2
    go_ret
    exact ⟨rfl, 0, rfl⟩
def isPartB (c : Int) : Bool := (lex_isPart.f c).getD false
theorem isPart_is (c : Int) : lex_isPart.f c = some (isPartB c) := by
  have h : ∃ b, lex_isPart.f c = some b := by
    have h1 : ∃ b, lex_isLetter.f c = some b := by
      unfold lex_isLetter.f
      split
      · exact ⟨_, rfl⟩
      · split <;> exact ⟨_, rfl⟩
    have h2 : ∃ b, lex_isDigit.f c = some b := by
      unfold lex_isDigit.f
      split <;> exact ⟨_, rfl⟩
    obtain ⟨b, hb⟩ := h1
    obtain ⟨d, hd⟩ := h2
    unfold lex_isPart.f
    rw [hb, hd]
    cases b
    · exact ⟨d, rfl⟩
    · exact ⟨true, rfl⟩
  obtain ⟨b, hb⟩ := h
  unfold isPartB
  rw [hb]
  rfl
theorem enters30 (args : Array Value) (w : World) : (callFunc 30 args).run Tryd.prog w = .ok (.enter 30 args) w := by go_simp
theorem pred30 : Pred 30 isPartB where
  enters := enters30
  call := fun c w _ _ => (lex_isPart.calls c (isPartB c) w (isPart_is c)).mono fun _ _ ⟨h, n, e⟩ => ⟨h, n, e⟩
def blankB (c : Int) : Bool := c == 32 || c == 9 || c == 10 || c == 13
theorem enters27 (args : Array Value) (w : World) : (callFunc 27 args).run Tryd.prog w = .ok (.enter 27 args) w := by go_simp
set_option maxHeartbeats 2000000 in
theorem pred27 : Pred 27 blankB where
  enters := enters27
  call := fun c w _ _ => by
    unfold blankB
    cases h1 : c == 32 with
    | true =>
      go_enter Tryd.func27, Tryd.ntmps27
      go_wp2
      go_ret
      exact ⟨rfl, 0, rfl⟩
    | false =>
    cases h2 : c == 9 with
    | true =>
      go_enter Tryd.func27, Tryd.ntmps27
      go_wp2
      go_ret
      exact ⟨rfl, 0, rfl⟩
    | false =>
    cases h3 : c == 10 with
    | true =>
      go_enter Tryd.func27, Tryd.ntmps27
      go_wp2
      go_ret
      exact ⟨rfl, 0, rfl⟩
    | false =>
    cases h4 : c == 13 with
    | true =>
      go_enter Tryd.func27, Tryd.ntmps27
      go_wp2
      go_ret
      exact ⟨rfl, 0, rfl⟩
    | false =>
      go_enter Tryd.func27, Tryd.ntmps27
      go_wp2
      go_ret
      exact ⟨rfl, 0, rfl⟩
end Go.Proofs.YtafjbebbmfihaaaDoor.P
