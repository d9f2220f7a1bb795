/- (*liner).read: whether a place is still read; no condition. -/
import Derived.Test.YtafjbebbmfihaaaMRange
import Derived.Test.YtafjbebbmfihaaaSDefs
import Derived.Test.YtafjbebbmfihaaaHMeet
namespace Go.Proofs.Ytafjbebbmfihaaa.P
open Go.RowKit Go.Proofs.YtafjbebbmfihaaaW.PrintWords Go.Proofs.YtafjbebbmfihaaaW.PrintLast Go.Proofs.YtafjbebbmfihaaaW.PrintMore
set_option linter.unusedVariables false
set_option linter.unusedSimpArgs false
set_option linter.unusedSectionVars false

/-- The map's entries as values. -/
def lfv (left : List (Int × Int)) : List (Int × Value) := left.map fun p => (p.1, Value.int .i64 p.2)
theorem lfv_length (left : List (Int × Int)) : (lfv left).length = left.length := by simp [lfv]
theorem lfv_at (left : List (Int × Int)) (j : Nat) (hj : j < (lfv left).length) : (lfv left)[j] = (left[j]'(by simpa [lfv] using hj) |>.1, Value.int .i64 (left[j]'(by simpa [lfv] using hj)).2) := by simp [lfv]
/-- What has been out, read off the world: for the measure. -/
def seenOf (w : World) (r : Nat) : List Nat := match w.heap[r]? with | some (.mapIter _ _ sn _) => sn.toList | _ => []
theorem seenOf_eq {w : World} {r b : Nat} {l : List (Int × Value)} {bn seen : List Nat} (h : RIt w r b l bn seen) : seenOf w r = seen := by
  obtain ⟨es, clock, since, c0, sn, h1, h2, h3, h4, h5, h6, h7, h8, h9⟩ := h
  unfold seenOf
  rw [h5]
  exact h9
def ReadPost (w : World) (v : Bool) (e : Ending) (w' : World) : Prop := e = .returned (.bool v) ∧ Below w.heap.size w w'
set_option maxHeartbeats 4000000 in
set_option maxRecDepth 100000 in
theorem read_calls (xb bm : Nat) (left : List (Int × Int)) (k : Int) (w : World) (hcell : w.cell? ⟨xb, 0, none⟩ = some (.map (some bm))) (hM : IMap w bm (lfv left)) :
    Calls Try.prog 37 #[ptr xb, .int .i64 k] w (ReadPost w (lf_read left k)) := by
  have HM := Aside0.mk hM
  clear hM
  go_enter Try.func37, Try.ntmps37
  go_wp2_with (at_range; go_must (refine wpList_im_range _ rfl _ 50 3 3 rfl Try.underlying50 bm (lfv left) rfl HM.out ?_; intro bn o' hR; have HR := Aside0.mk hR; have HB := Aside0.mk (below_alloc (Below.refl w.heap.size w) o'); clear hR))
  go_frame
  go_loopw [4] (fun v4 wr => ∃ (seen : List Nat), v4 = .bool false ∧ Aside0 (RIt wr w.heap.size bm (lfv left) bn seen) ∧ Aside0 (∀ (j : Nat) (hj : j < left.length) (hb : j < bn.length), bn[j] ∈ seen → left[j].2 ≠ k) ∧ Aside0 (Below w.heap.size w wr)) (fun _ wr => unseen bn (seenOf wr w.heap.size))
  case atStart => exact ⟨[], rfl, HR, ⟨by simp⟩, HB⟩
  case round =>
    clear HR HB
    obtain ⟨seen, rfl, HR, HS, HB⟩ := hrel
    go_wp2_with (at_next; go_must (refine wpList_im_next _ rfl _ rfl w.heap.size bm (lfv left) bn seen rfl HR.out ?_ ?_))
    · intro hall
      have hno : lf_read left k = false := by
        unfold lf_read
        rw [List.any_eq_false]
        intro p hp
        obtain ⟨j, hj, rfl⟩ := List.getElem_of_mem hp
        have hlb : j < bn.length := by rw [HR.out.lens.1, lfv_length]; exact hj
        have := HS.out j hj hlb (hall _ (List.getElem_mem hlb))
        simpa using this
      have HN := Aside0.mk hno
      clear hall hno
      go_wp2
      go_ret
      exact ⟨by rw [HN.out]; rfl, HB.out⟩
    · intro j hj hb w' hns hr1 hen hgr hsz
      have hjl : j < left.length := by rwa [lfv_length] at hj
      have e := lfv_at left j hj
      rw [e] at hen ⊢
      obtain ⟨⟨px, py⟩, hp⟩ : ∃ p, p = left[j] := ⟨_, rfl⟩
      have h1 : (left[j]).1 = px := by rw [← hp]
      have h2 : (left[j]).2 = py := by rw [← hp]
      simp only [h1, h2] at hen ⊢
      have HR1 := Aside0.mk hr1
      have HB1 : Aside0 (Below w.heap.size w w') := ⟨HB.out.grown hgr HB.out.size (fun k e => by cases e; exact Nat.le_refl _)⟩
      have HNS := Aside0.mk hns
      have HP := Aside0.mk hp
      have hbm := List.getElem_mem hb
      have HBM := Aside0.mk hbm
      clear hr1 hgr hsz hns e hp h1 h2 hbm
      by_cases c : py = k
      · have hbe : (py == k) = true := by rw [c]; simp
        have hyes : lf_read left k = true := by
          unfold lf_read
          rw [List.any_eq_true]
          exact ⟨left[j], List.getElem_mem hjl, by rw [← HP.out]; simpa using c⟩
        have HY := Aside0.mk hyes
        clear hyes c
        go_wp2
        go_ret
        exact ⟨by rw [HY.out]; rfl, HB1.out⟩
      · have hbe : (py == k) = false := by rw [beq_eq_false_iff_ne]; exact c
        have HC := Aside0.mk c
        clear c
        go_wp2
        go_roundw
        case measure => rw [seenOf_eq HR1.out, seenOf_eq HR.out]; exact unseen_lt HBM.out HNS.out
        case rel => exact ⟨_, rfl, HR1, ⟨fun i hi hib hm => by
          rcases List.mem_append.1 hm with h | h
          · exact HS.out i hi hib h
          · have hij : i = j := (List.getElem_inj (h₀ := hib) (h₁ := hb) HR.out.lens.2).1 (List.mem_singleton.1 h)
            subst hij
            rw [← HP.out]
            exact HC.out⟩, HB1⟩
end Go.Proofs.Ytafjbebbmfihaaa.P
