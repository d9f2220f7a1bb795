/- shuffle.Line's second loop: what it holds in memory; no condition. -/
import Derived.Test.YtafjbebbmfihaaaHLineA
namespace Go.Proofs.Ytafjbebbmfihaaa.P
open Go.RowKit Go.Proofs.YtafjbebbmfihaaaW.PrintWords Go.Proofs.YtafjbebbmfihaaaW.PrintLast Go.Proofs.YtafjbebbmfihaaaW.PrintMore
set_option linter.unusedVariables false
set_option linter.unusedSimpArgs false
set_option linter.unusedSectionVars false

theorem pass_len : ∀ (us : List Int) (left : List (Int × Int)) (out : List S38) (ag : Bool), (shuffle_Line.pass us left out ag).2.1.length + (shuffle_Line.pass us left out ag).1.length ≤ out.length + left.length
  | [], left, out, ag => by rw [shuffle_Line.pass]; exact Nat.le_refl _
  | a :: us, left, out, ag => by
    rw [shuffle_Line.pass]
    cases h : lf_get left a with
    | none => exact pass_len us left out ag
    | some b =>
      dsimp only
      by_cases c : lf_read left a = true
      · rw [if_pos c]; exact pass_len us left out ag
      · rw [if_neg c]
        have h1 := pass_len us (lf_del left a) (out ++ [⟨a, b⟩]) true
        have h2 := lf_del_lt h
        simp only [List.length_append, List.length_singleton] at h1
        omega
theorem free_len : ∀ (k : Nat) (order : List Int) (left : List (Int × Int)) (out : List S38) (r : List (Int × Int) × List S38), shuffle_Line.free k order left out = some r → r.2.length + r.1.length ≤ out.length + left.length
  | 0, _, _, _, _, h => by simp [shuffle_Line.free] at h
  | k + 1, order, left, out, r, h => by
    rw [shuffle_Line.free] at h
    have h1 := pass_len order left out false
    by_cases c : (shuffle_Line.pass order left out false).2.2 = true
    · simp only [c, if_true] at h
      have h2 := free_len k _ _ _ _ h
      omega
    · simp only [c] at h
      obtain rfl := Option.some.inj h
      exact h1
structure L2 (w wr : World) (pb bm xb : Nat) (spare : Int) (left : List (Int × Int)) (order : List Int) (out : List S38) (vo vu : Value) : Prop where
  ln : Ln w.heap.size wr xb bm left order out vo vu
  pb_ : wr.heap[pb]? = some (.cells #[.int .i64 spare] 3 (0, 0))
  below : Below w.heap.size w wr
  po : vo.ownBlock ≠ some pb
section
variable {w wr w' : World} {pb bm xb : Nat} {spare : Int} {left left' : List (Int × Int)} {order : List Int} {out out' : List S38} {vo vu vu' : Value}
theorem L2.plt (h : L2 w wr pb bm xb spare left order out vo vu) : pb < wr.heap.size := (Array.getElem?_eq_some_iff.1 h.pb_).1
theorem L2.bp (h : L2 w wr pb bm xb spare left order out vo vu) : pb ≠ bm := fun e => h.ln.map.not_cells (by rw [← e]; exact h.pb_)
theorem L2.xp (h : L2 w wr pb bm xb spare left order out vo vu) : pb ≠ xb := by
  intro e
  have h1 := h.ln.blk
  rw [← e, h.pb_] at h1
  injection h1 with h1
  injection h1 with _ h1
  cases h1
theorem L2.pu (h : L2 w wr pb bm xb spare left order out vo vu) : some pb ≠ vu.ownBlock := by
  intro e
  obtain ⟨cells, hc⟩ := Kd.R_typed h.ln.res pb e.symm
  rw [h.pb_] at hc
  injection hc with hc
  injection hc with _ hc
  cases hc
theorem L2.step (h : L2 w wr pb bm xb spare left order out vo vu) (hb : Below wr.heap.size wr w') : L2 w w' pb bm xb spare left order out vo vu := ⟨h.ln.below hb, (hb.block _ h.plt).trans h.pb_, below_step h.below hb, h.po⟩
theorem L2.freed (h : L2 w wr pb bm xb spare left order out vo vu) (hu : Und w.heap.size wr w' xb bm left' order out' vo vu vu') : L2 w w' pb bm xb spare left' order out' vo vu' :=
  ⟨hu.ln, (hu.keep.block _ h.plt h.xp h.bp h.pu).trans h.pb_, hu.keep.base h.ln h.below, h.po⟩
theorem L2.push (h : L2 w wr pb bm xb spare left order out vo vu) (hR : Kd.R k38 38 w' w.heap.size (fun _ => True) vu' out') (hg : wr.drew.grownBy w' vu.ownBlock) : L2 w (w'.setCell ⟨xb, 2, none⟩ vu') pb bm xb spare left order out' vo vu' := by
  obtain ⟨hx, hm, ho⟩ := h.ln.grow hg
  have hxu' : ∀ k, vu'.ownBlock = some k → k ≠ xb := by
    rintro k hk rfl
    obtain ⟨cells, hc⟩ := Kd.R_typed hR k hk
    rw [hx] at hc
    injection hc with hc
    injection hc with _ hc
    cases hc
  have hxo : ∀ k, vo.ownBlock = some k → k ≠ xb := fun k hk e => h.ln.xo (by rw [hk, e])
  refine ⟨⟨?_, IMap.setCell hm _ _ (Ne.symm h.ln.xne), ?_, ?_, h.ln.num⟩, ?_, ?_, h.po⟩
  · have := heap_setCell_same w' xb 2 #[.map (some bm), vo, vu] 52 vu' hx
    simpa using this
  · exact Kd.R_mono (Kd.R_far (p := ⟨xb, 2, none⟩) ho (fun k hk => hxo k hk) vu') (fun _ _ => trivial)
  · exact Kd.R_mono (Kd.R_far (p := ⟨xb, 2, none⟩) (res_own (ok := fun k => vu'.ownBlock = some k) hR (fun k hk => hk)) (fun k hk => hxu' k hk) vu') (fun _ _ => trivial)
  · rw [Below.heap_setCell _ _ _ _ h.xp]
    exact (hg.block _ h.plt h.pu).trans h.pb_
  · exact ((below_drew h.below).grown hg h.below.size (fun k e => Kd.R_base h.ln.res k e)).setCell h.ln.num.1 _
/-- A step over another block, or over the map. -/
theorem L2.turn (h : L2 w wr pb bm xb spare left order out vo vu) {r : Nat} (hM : IMap w' bm (lfv left')) (hg : wr.grownBy w' (some r)) (hr : r = bm ∨ (w.heap.size ≤ r ∧ ∀ (c : Array Value) (t : TypeId) (f : Nat × Nat), wr.heap[r]? ≠ some (.cells c t f))) : L2 w w' pb bm xb spare left' order out vo vu := by
  have hcells : ∀ (k : Nat) (c : Array Value) (t : TypeId) (f : Nat × Nat), wr.heap[k]? = some (.cells c t f) → some k ≠ some r := by
    intro k c t f hk e
    injection e with e
    subst e
    rcases hr with e | ⟨_, hn⟩
    · subst e; exact h.ln.map.not_cells hk
    · exact hn c t f hk
  have hbr : w.heap.size ≤ r := by
    rcases hr with e | ⟨h, _⟩
    · rw [e]; exact h.ln.num.2
    · exact h
  refine ⟨⟨(hg.block _ h.ln.xlt (hcells _ _ _ _ h.ln.blk)).trans h.ln.blk, hM, ?_, ?_, h.ln.num⟩, (hg.block _ h.plt (hcells _ _ _ _ h.pb_)).trans h.pb_, h.below.grown hg h.below.size (fun k e => by cases e; exact hbr), h.po⟩
  · refine Kd.R_mono (Kd.R_grown (ord_own (ok := fun k => vo.ownBlock = some k) h.ln.ord (fun k hk => hk)) hg (fun k hk => ?_)) (fun _ _ => trivial)
    obtain ⟨cells, hc⟩ := Kd.R_typed h.ln.ord k hk
    exact hcells _ _ _ _ hc
  · refine Kd.R_mono (Kd.R_grown (res_own (ok := fun k => vu.ownBlock = some k) h.ln.res (fun k hk => hk)) hg (fun k hk => ?_)) (fun _ _ => trivial)
    obtain ⟨cells, hc⟩ := Kd.R_typed h.ln.res k hk
    exact hcells _ _ _ _ hc
end
theorem RIt.no_cells {w : World} {r b : Nat} {l : List (Int × Value)} {bn seen : List Nat} (h : RIt w r b l bn seen) (c : Array Value) (t : TypeId) (f : Nat × Nat) : w.heap[r]? ≠ some (.cells c t f) := by
  obtain ⟨es, clock, since, c0, sn, h1, h2, h3, h4, h5, h6⟩ := h
  rw [h5]
  intro e
  cases e
/-- Who read a now reads spare. -/
def turn (a spare : Int) (p : Int × Int) : Int × Int := if p.2 = a then (p.1, spare) else p
theorem im_range_any {P : Program} (w : World) {ops : Array Oper} {rest : List Oper} {o : Oper} {a : Act} {Q : Exit → Act → World → Prop} (hg : o.guard = none) (m : Operand) (t kt et : TypeId) (hop : o.op = Op.range t m) (ht : P.underlying t = some (.map kt et)) (b : Nat) (l : List (Int × Value)) (hm : a.eval m = .map (some b)) (h : IMap w b l)
    (hK : ∀ bn r w', RIt w' r b l bn [] → Below w.heap.size w w' → w.heap.size ≤ r → wpList P ops Q rest (a.put o.dst (.pointer (some ⟨r, 0, none⟩))) w') : wpList P ops Q (o :: rest) a w :=
  wpList_im_range w hg m t kt et hop ht b l hm h (fun bn o' hr => hK bn _ _ hr (below_alloc (Below.refl _ _) _) (Nat.le_refl _))
theorem lfv_set (left : List (Int × Int)) (j : Nat) (x y : Int) : (lfv left).set j (x, .int .i64 y) = lfv (left.set j (x, y)) := by
  unfold lfv
  rw [List.map_set]
end Go.Proofs.Ytafjbebbmfihaaa.P
