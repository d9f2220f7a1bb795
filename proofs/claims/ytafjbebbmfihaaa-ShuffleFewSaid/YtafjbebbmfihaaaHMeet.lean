/- graph.Doms' inner function meet does what graph_Doms.meet says; no condition. -/
import Derived.Test.YtafjbebbmfihaaaHOrder
import Derived.Deep.DeepMust
namespace Go.Proofs.Ytafjbebbmfihaaa.P
open Go.RowKit Go.Proofs.YtafjbebbmfihaaaW.PrintWords Go.Proofs.YtafjbebbmfihaaaW.PrintLast Go.Proofs.YtafjbebbmfihaaaW.PrintMore
set_option linter.unusedSectionVars false
set_option linter.unusedVariables false
set_option linter.unusedSimpArgs false

/-- What meet returns: a number, and nothing is written. -/
def Quiet0 (w : World) (r : Int) (e : Ending) (w' : World) : Prop := e = .returned (.int .i64 r) ∧ ∃ n, w' = w.drewN n

set_option maxHeartbeats 4000000 in
set_option maxRecDepth 100000 in
theorem meet_calls (bp bn : Nat) (Ap An : Option Addr) (cp cn : Nat) (place near : List Int) (w : World) (hp : w.cell? ⟨bp, 0, none⟩ = some (.slice Ap place.length cp)) (hn : w.cell? ⟨bn, 0, none⟩ = some (.slice An near.length cn))
    (hP : Kd.C (Kd.int .i64) w Ap place.length place) (hN : Kd.C (Kd.int .i64) w An near.length near) (k : Nat) (a b r : Int) (h : graph_Doms.meet k place near a b = some r) :
    Calls Try.prog 31 #[.int .i64 a, .int .i64 b, ptr bp, ptr bn] w (Quiet0 w r) := by
  have H := Aside0.mk h
  have HP := Aside0.mk hP
  have HN := Aside0.mk hN
  clear h hP hN
  go_enter Try.func31, Try.ntmps31
  go_wp2
  go_loopg [0, 1] k (fun kq v0 v1 wr => ∃ (x y : Int) (n : Nat), v0 = .int .i64 x ∧ v1 = .int .i64 y ∧ wr = w.drewN n ∧ Aside0 (graph_Doms.meet kq place near x y = some r))
  case atStart => exact ⟨a, b, 0, rfl, rfl, rfl, H⟩
  case round =>
    clear H
    obtain ⟨x, y, n, rfl, rfl, rfl, H⟩ := hrel
    cases gk with
    | zero => exact absurd H.out (by simp [graph_Doms.meet])
    | succ k1 =>
    have h := H.out
    simp only [graph_Doms.meet] at h
    by_cases hxy : x = y
    · rw [if_pos hxy] at h
      have hne : (x != y) = false := by rw [hxy]; simp
      have H2 := Aside0.mk h
      clear h H hxy
      go_wp2
      go_ret
      have h2 := Option.some.inj H2.out
      exact ⟨by rw [← h2]; rfl, _, rfl⟩
    · rw [if_neg hxy] at h
      have hne : (x != y) = true := by rw [bne_iff_ne]; exact hxy
      by_cases hin : inB place near x ∧ inB place near y
      case neg => rw [if_neg hin] at h; cases h
      rw [if_pos hin] at h
      obtain ⟨⟨hx0, hx1, hx2⟩, ⟨hy0, hy1, hy2⟩⟩ := hin
      obtain ⟨ap, e1, hcx⟩ := Kd.at_int HP.out x hx0 hx1
      cases e1
      obtain ⟨ap', e1, hcy⟩ := Kd.at_int HP.out y hy0 hy1
      cases e1
      obtain ⟨an, e1, hnx⟩ := Kd.at_int HN.out x hx0 hx2
      cases e1
      obtain ⟨an', e1, hny⟩ := Kd.at_int HN.out y hy0 hy2
      cases e1
      clear hxy H
      by_cases hlt : rd place y < rd place x
      · rw [if_pos hlt] at h
        have H2 := Aside0.mk h
        have hdec : decide (rd place y < rd place x) = true := decide_eq_true hlt
        clear h hlt
        go_wp2_with fail
        go_quiet (fail)
        go_wp2
        go_roundg k1
        case measure => omega
        case rel => exact ⟨rd near x, y, _, rfl, rfl, rfl, H2⟩
      · rw [if_neg hlt] at h
        have H2 := Aside0.mk h
        have hdec : decide (rd place y < rd place x) = false := decide_eq_false hlt
        clear h hlt
        go_wp2_with fail
        go_quiet (fail)
        go_wp2
        go_roundg k1
        case measure => omega
        case rel => exact ⟨x, rd near y, _, rfl, rfl, rfl, H2⟩
end Go.Proofs.Ytafjbebbmfihaaa.P
