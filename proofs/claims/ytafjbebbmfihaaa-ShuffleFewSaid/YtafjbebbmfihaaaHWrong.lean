/- shuffle.Line's inner function wrong; no condition. -/
import Derived.Test.YtafjbebbmfihaaaHFree
namespace Go.Proofs.Ytafjbebbmfihaaa.P
open Go.RowKit Go.Proofs.YtafjbebbmfihaaaW.PrintWords Go.Proofs.YtafjbebbmfihaaaW.PrintLast Go.Proofs.YtafjbebbmfihaaaW.PrintMore
set_option linter.unusedVariables false
set_option linter.unusedSimpArgs false
set_option linter.unusedSectionVars false

set_option maxHeartbeats 4000000 in
set_option maxRecDepth 100000 in
theorem wrong_calls (sc sm pb : Nat) (seen : List Int) (spare x y : Int) (w : World) (hsc : w.cell? ⟨sc, 0, none⟩ = some (.map (some sm))) (hM : IMap w sm (bset seen)) (hpb : w.cell? ⟨pb, 0, none⟩ = some (.int .i64 spare)) :
    Calls Try.prog 28 #[.agg #[.int .i64 x, .int .i64 y], ptr sc, ptr pb] w (ReadPost w (decide (x ∈ seen ∨ x = spare ∨ y = spare))) := by
  have HM := Aside0.mk hM
  have HSC := Aside0.mk hsc
  have HPB := Aside0.mk hpb
  have hA : ∀ o, IMap (w.alloc o) sm (bset seen) := fun o => IMap.alloc hM o
  have HA := Aside0.mk hA
  have hc1 : ∀ o, (w.alloc o).cell? ⟨sc, 0, none⟩ = some (.map (some sm)) := fun o => cell_alloc hsc o
  have hc2 : ∀ o, (w.alloc o).cell? ⟨pb, 0, none⟩ = some (.int .i64 spare) := fun o => cell_alloc hpb o
  clear hM hA hsc hpb
  by_cases h1 : x ∈ seen
  · have hd : decide (x ∈ seen ∨ x = spare ∨ y = spare) = true := decide_eq_true (.inl h1)
    have hd1 : decide (x ∈ seen) = true := decide_eq_true h1
    have HD := Aside0.mk hd
    have HD1 := Aside0.mk hd1
    clear h1 hd hd1
    go_enter Try.func28, Try.ntmps28
    go_wp2_with (at_lookup; go_must (refine wpList_im_look rfl _ _ 45 3 4 false rfl Try.underlying45 Try.underlying3 (.bool false) zero4 sm (bset seen) rfl (HA.out _) x rfl ?_; simp only [Bool.false_eq_true, if_false, imGet_bset, HD1.out]))
    go_ret
    exact ⟨by rw [HD.out]; rfl, below_alloc (Below.refl _ _) _⟩
  · have hd1 : decide (x ∈ seen) = false := decide_eq_false h1
    have HD1 := Aside0.mk hd1
    clear hd1
    by_cases h2 : x = spare
    · have hd : decide (x ∈ seen ∨ x = spare ∨ y = spare) = true := decide_eq_true (.inr (.inl h2))
      have hd2 : (x == spare) = true := by rw [h2]; simp
      have HD := Aside0.mk hd
      clear h1 h2 hd
      go_enter Try.func28, Try.ntmps28
      go_wp2_with (at_lookup; go_must (refine wpList_im_look rfl _ _ 45 3 4 false rfl Try.underlying45 Try.underlying3 (.bool false) zero4 sm (bset seen) rfl (HA.out _) x rfl ?_; simp only [Bool.false_eq_true, if_false, imGet_bset, HD1.out]))
      go_ret
      exact ⟨by rw [HD.out]; rfl, below_alloc (Below.refl _ _) _⟩
    · have hd2 : (x == spare) = false := by rw [beq_eq_false_iff_ne]; exact h2
      by_cases h3 : y = spare
      · have hd : decide (x ∈ seen ∨ x = spare ∨ y = spare) = true := decide_eq_true (.inr (.inr h3))
        have hd3 : (y == spare) = true := by rw [h3]; simp
        have HD := Aside0.mk hd
        clear h1 h2 h3 hd
        go_enter Try.func28, Try.ntmps28
        go_wp2_with (at_lookup; go_must (refine wpList_im_look rfl _ _ 45 3 4 false rfl Try.underlying45 Try.underlying3 (.bool false) zero4 sm (bset seen) rfl (HA.out _) x rfl ?_; simp only [Bool.false_eq_true, if_false, imGet_bset, HD1.out]))
        go_ret
        exact ⟨by rw [HD.out]; rfl, below_alloc (Below.refl _ _) _⟩
      · have hd : decide (x ∈ seen ∨ x = spare ∨ y = spare) = false := decide_eq_false (fun h => h.elim h1 (fun h => h.elim h2 h3))
        have hd3 : (y == spare) = false := by rw [beq_eq_false_iff_ne]; exact h3
        have HD := Aside0.mk hd
        clear h1 h2 h3 hd
        go_enter Try.func28, Try.ntmps28
        go_wp2_with (at_lookup; go_must (refine wpList_im_look rfl _ _ 45 3 4 false rfl Try.underlying45 Try.underlying3 (.bool false) zero4 sm (bset seen) rfl (HA.out _) x rfl ?_; simp only [Bool.false_eq_true, if_false, imGet_bset, HD1.out]))
        go_ret
        exact ⟨by rw [HD.out]; rfl, below_alloc (Below.refl _ _) _⟩
end Go.Proofs.Ytafjbebbmfihaaa.P
