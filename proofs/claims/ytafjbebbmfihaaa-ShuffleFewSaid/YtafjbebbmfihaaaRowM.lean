/- A list of moves as an argument: opened; no condition. -/
import Derived.Test.YtafjbebbmfihaaaRowK
import Derived.Deep.SlicePairs
namespace Go.Proofs.Ytafjbebbmfihaaa.P
open Go.RowKit Go.Deep Go.ChangeShapes Go.WideShapes Go.ChangeAt Go.Proofs.YtafjbebbmfihaaaW.PrintWords Go.Proofs.YtafjbebbmfihaaaW.PrintLast Go.Proofs.YtafjbebbmfihaaaW.PrintMore
set_option linter.unusedVariables false
set_option linter.unusedSimpArgs false
set_option linter.unusedSectionVars false
theorem cells38 : Try.prog.cellsOf 38 = 2 := by kernel_rfl
theorem open_moves29 {H : Type} {enc : TypeId × Value → H} {W : World} {base : Nat} {v : Value} {d : DataW H} {p : List MemPlace} (hok : Value.okWide Try.prog W .any base 29 v) (h : DataW.Trod enc Try.prog W 0 (fun _ => true) true 29 v d p) :
    ∃ (A : Option Addr) (c : Nat) (l : List S38), v = .slice A l.length c ∧ l.length ≤ c ∧ Kd.C k38 W A l.length l := by
  obtain ⟨a0, len, cap, rfl⟩ := okWide_slice Try.underlying29 hok
  obtain ⟨fuel, hf⟩ := h
  rcases open_slice_pairs Try.underlying29 Try.underlying38 cells38 rfl rfl cellsOf3 cellsOf3 hf with ⟨hcs0, hx⟩ | ⟨a, len', cap', m, n, V0, V1, D0, D1, P0, P1, hcs0, _, hl, hm, hmm, hx, hrows⟩
  · simp [Value.cells] at hcs0
    obtain ⟨rfl, rfl, rfl⟩ := hcs0
    exact ⟨none, 0, [], rfl, Nat.le_refl _, ⟨rfl, by simp, fun h => by simp at h⟩⟩
  · simp [Value.cells] at hcs0
    obtain ⟨rfl, rfl, rfl⟩ := hcs0
    have hmax : maxLen = 9223372036854775807 := rfl
    have hlm : len ≤ m := by rw [hmm]; simp; exact hl
    have hll : ((List.range len).map fun i => (⟨intOf (V0 i), intOf (V1 i)⟩ : S38)).length = len := by simp
    refine ⟨some a, cap, (List.range len).map fun i => (⟨intOf (V0 i), intOf (V1 i)⟩ : S38), by rw [hll], by rw [hll]; exact hl, rfl, by rw [hll]; omega, fun _ => ⟨a, rfl, fun j q hj => ?_⟩⟩
    have hjl : j < len := by
      have := (List.getElem?_eq_some_iff.1 hj).1
      rwa [hll] at this
    have hq : q = ⟨intOf (V0 j), intOf (V1 j)⟩ := by
      have : ((List.range len).map fun i => (⟨intOf (V0 i), intOf (V1 i)⟩ : S38))[j]? = some ⟨intOf (V0 j), intOf (V1 j)⟩ := by simp [hjl]
      rw [this] at hj
      exact (Option.some.inj hj).symm
    obtain ⟨h0, h1, t0, t1⟩ := hrows j (by omega)
    obtain ⟨x, e0, _, _⟩ := DataW.trod_int Try.underlying3 t0
    obtain ⟨y, e1, _, _⟩ := DataW.trod_int Try.underlying3 t1
    simp only [List.cons.injEq, and_true] at e0 e1
    subst hq
    refine ⟨[.int .i64 x, .int .i64 y], rfl, ?_, fun i u hu => ?_⟩
    · have := k38_mk W ⟨intOf (V0 j), intOf (V1 j)⟩
      rw [e0, e1] at this ⊢
      exact this
    · rcases i with _ | _ | i
      · obtain rfl : Value.int .i64 x = u := by simpa using hu
        rw [e0] at h0
        exact h0
      · obtain rfl : Value.int .i64 y = u := by simpa using hu
        rw [e1] at h1
        exact h1
      · simp at hu
end Go.Proofs.Ytafjbebbmfihaaa.P
