/- A list of lists of numbers as an argument: opened; no condition. -/
import Derived.Test.YtafjbebbmfihaaaPx0
import Derived.Test.YtafjbebbmfihaaaRows
import Derived.ChangeSame
import Derived.ChangeSlices
import Derived.RowKit
import Derived.Deep.Matrix
import Derived.Carry
import Derived.WalkKit
import Derived.ProofKit
import Derived.OpenShut
import Derived.ShutString
import Derived.ChangeOld
import Derived.Below
import Derived.RowKit2
import Derived.RowKit3
import Derived.JoinedAt
import Derived.SizedLaws
namespace Go.Proofs.Ytafjbebbmfihaaa.P
open Go.RowKit Go.Deep Go.ChangeShapes Go.WideShapes Go.ChangeAt Go.Proofs.YtafjbebbmfihaaaW.PrintWords Go.Proofs.YtafjbebbmfihaaaW.PrintLast Go.Proofs.YtafjbebbmfihaaaW.PrintMore
set_option linter.unusedSimpArgs false
set_option linter.unusedSectionVars false
set_option linter.unusedVariables false
theorem laidOut_try : laidOutB Try.prog = true := by kernel_rfl
theorem cells27 : Try.prog.cellsOf 27 = 1 := by kernel_rfl
theorem cellsOf3 : Try.prog.cellsOf 3 = 1 := by kernel_rfl
theorem bytes27 : Try.prog.bytesOf 27 = 24 := by kernel_rfl
theorem bytes3 : Try.prog.bytesOf 3 = 8 := by kernel_rfl
theorem weights_all {H : Type} {P : Program} {e : TypeId} : ∀ {ds : List (DataW H)} {d : DataW H}, d ∈ ds → ∀ n ∈ d.weights P e, n ∈ DataW.weightsAll P e ds
  | d0 :: ds, d, hd, n, hn => by
    simp only [DataW.weightsAll, List.mem_append]
    rcases List.mem_cons.1 hd with rfl | hd
    · exact .inl hn
    · exact .inr (weights_all hd n hn)
  | [], _, hd, _, _ => by cases hd
theorem open_rows22 {H : Type} {enc : TypeId × Value → H} {W : World} {base : Nat} {v : Value} {d : DataW H} {p : List MemPlace} (hok : Value.okWide Try.prog W .any base 22 v) (h : DataW.Trod enc Try.prog W 0 (fun _ => true) true 22 v d p)
    (hsz : ∀ n ∈ d.weights Try.prog 22, n ≤ reachBytes) :
    ∃ (A : Option Addr) (c : Nat) (l : List (List Int)), v = .slice A l.length c ∧ l.length ≤ c ∧ Kd.C (Kd.slice 3 (Kd.int .i64)) W A l.length l ∧ l.length < 4611686018427387904 ∧ ∀ i, (rd_L1 l i).length < 4611686018427387904 := by
  obtain ⟨a0, len, cap, rfl⟩ := okWide_slice Try.underlying22 hok
  obtain ⟨fuel, hf⟩ := h
  rcases open_int_rows Try.underlying22 Try.underlying27 Try.underlying3 cells27 cellsOf3 hf with ⟨hcs0, hx⟩ | ⟨a, len', cap', A, L, C, Z, hcs0, _, hl, hm, hx, hrows⟩
  · simp [Value.cells] at hcs0
    obtain ⟨rfl, rfl, rfl⟩ := hcs0
    refine ⟨none, 0, [], rfl, Nat.le_refl _, ⟨rfl, by simp, fun h => by simp at h⟩, by simp, fun i => by simp [rd_L1]⟩
  · simp [Value.cells] at hcs0
    obtain ⟨rfl, rfl, rfl⟩ := hcs0
    simp only [Prod.mk.injEq] at hx
    obtain ⟨rfl, rfl⟩ := hx
    have hreach : reachBytes = 140737488351232 := rfl
    have hw0 := hsz ((((List.range len).map fun r => intRow (H := H) .i64 (A r) (L r) (Z r)).length + ((List.range (cap - len)).map fun j => intRow (H := H) .i64 (A (len + j)) (L (len + j)) (Z (len + j))).length) * Try.prog.bytesOf 27) (by simp [DataW.weights, Try.underlying22])
    simp only [List.length_map, List.length_range, bytes27, hreach] at hw0
    have hrow : ∀ r, r < len → L r ≤ 140737488351232 := by
      intro r hr
      obtain ⟨_, h1, _, h2, _, h3, _⟩ := hrows r (by omega)
      cases hA : A r with
      | none => have := h3 hA; omega
      | some a1 =>
        have hmem : (lits (H := H) .i64 ((Z r).take (L r))).length + (lits (H := H) .i64 ((Z r).drop (L r))).length ∈ [(lits (H := H) .i64 ((Z r).take (L r))).length + (lits (H := H) .i64 ((Z r).drop (L r))).length] := List.mem_singleton.2 rfl
        have hw := hsz (((lits (H := H) .i64 ((Z r).take (L r))).length + (lits (H := H) .i64 ((Z r).drop (L r))).length) * Try.prog.bytesOf 3) (by
          simp only [DataW.weights, Try.underlying22]
          refine List.mem_cons_of_mem _ (List.mem_append_left _ (weights_all (d := intRow (H := H) .i64 (A r) (L r) (Z r)) (List.mem_map.2 ⟨r, List.mem_range.2 hr, rfl⟩) _ ?_))
          rw [hA]
          simp only [intRow, DataW.weights, Try.underlying27]
          exact List.mem_cons_self)
        simp only [lits, List.length_map, List.length_take, List.length_drop, bytes3, hreach] at hw
        omega
    have hll : ((List.range len).map fun r => (Z r).take (L r)).length = len := by simp
    have hmax : maxLen = 9223372036854775807 := rfl
    refine ⟨some a, cap, (List.range len).map fun r => (Z r).take (L r), by rw [hll], by rw [hll]; exact hl, ⟨rfl, by rw [hll]; omega, fun _ => ⟨a, rfl, fun j q hj => ?_⟩⟩, by rw [hll]; omega, fun i => ?_⟩
    · have hjl : j < len := by
        have := (List.getElem?_eq_some_iff.1 hj).1
        rwa [hll] at this
      obtain ⟨hc, h1, hC, h2, hz, h3, h4⟩ := hrows j (by omega)
      have hq : q = (Z j).take (L j) := by
        have : ((List.range len).map fun r => (Z r).take (L r))[j]? = some ((Z j).take (L j)) := by simp [hjl]
        rw [this] at hj
        exact (Option.some.inj hj).symm
      have hql : ((Z j).take (L j)).length = L j := by rw [List.length_take]; omega
      refine ⟨[.slice (A j) (L j) (C j)], rfl, ?_, fun i u hu => ?_⟩
      · subst hq
        refine ⟨A j, C j, by rw [hql], by rw [hql]; exact h1, Kd.C_of_reads (d := (0 : Int)) ⟨rfl, by rw [hql]; omega, fun hn => ?_⟩⟩
        rw [hql] at hn
        cases hA : A j with
        | none => have := h3 hA; omega
        | some a' =>
          refine ⟨a', rfl, fun c hc => ?_⟩
          rw [hql] at hc
          rw [(h4 a' hA).2 c (by omega)]
          have hcz : c < (Z j).length := by omega
          congr 2
          simp [List.getD, List.getElem?_take, hc, hcz]
      · cases i with
        | zero =>
          obtain rfl : Value.slice (A j) (L j) (C j) = u := by simpa using hu
          have : (Kd.slice 3 (Kd.int .i64)).sz = 1 := rfl
          rw [this, Nat.mul_one, Nat.add_zero]
          exact hc
        | succ i => simp at hu
    · by_cases hi : i.toNat < len
      · have := hrow i.toNat hi
        simp [rd_L1, List.getD, hi]
        omega
      · simp [rd_L1, List.getD, hi]
end Go.Proofs.Ytafjbebbmfihaaa.P
