/- shuffle.Line's first loop: what it holds in memory; no condition. -/
import Derived.Test.YtafjbebbmfihaaaHWrong
import Derived.Deep.MidRow
namespace Go.Proofs.Ytafjbebbmfihaaa.P
open Go.RowKit Go.Proofs.YtafjbebbmfihaaaW.PrintWords Go.Proofs.YtafjbebbmfihaaaW.PrintLast Go.Proofs.YtafjbebbmfihaaaW.PrintMore
set_option linter.unusedVariables false
set_option linter.unusedSimpArgs false
set_option linter.unusedSectionVars false

theorem under38 : ∃ d, Try.prog.underlying 38 = some d ∧ TypeDesc.isRow d = true := ⟨_, Try.underlying38, rfl⟩
theorem load38 (w : World) (a : Addr) (x y : Int) (h0 : w.cell? a = some (.int .i64 x)) (h1 : w.cell? ⟨a.block, a.off + 1, none⟩ = some (.int .i64 y)) :
    ∃ (b o : Nat), a = ⟨b, o, none⟩ ∧ w.rangeAt b o [.int .i64 x, .int .i64 y] := by
  obtain ⟨b, o, spot⟩ := a
  have hs : spot = none := World.cell?_spot h0
  subst hs
  refine ⟨b, o, rfl, fun j v hv => ?_⟩
  rcases j with _ | _ | j
  · obtain rfl : Value.int .i64 x = v := by simpa using hv
    exact h0
  · obtain rfl : Value.int .i64 y = v := by simpa using hv
    exact h1
  · simp at hv
theorem wpList_load38 {ops : Array Oper} {rest : List Oper} {op : Oper} {a : Act} {w : World} {Q : Exit → Act → World → Prop} (hgd : op.guard = none) (p : Operand) (ho : op.op = .load 38 p) (ad : Addr) (hx : a.eval p = .pointer (some ad)) (x y : Int)
    (h0 : w.cell? ad = some (.int .i64 x)) (h1 : w.cell? ⟨ad.block, ad.off + 1, none⟩ = some (.int .i64 y))
    (h : wpList Try.prog ops Q rest (a.put op.dst (.agg #[.int .i64 x, .int .i64 y])) w) : wpList Try.prog ops Q (op :: rest) a w := by
  obtain ⟨b, o, rfl, hr⟩ := load38 w ad x y h0 h1
  obtain ⟨d, hu, hd⟩ := under38
  exact wpList_load_mid hgd 38 p ho b o hx _ d hr hu hd (by
    obtain ⟨i, hi, e⟩ := Option.map_eq_some_iff.1 info38
    rw [hi]
    simp only [Prod.mk.injEq] at e
    simp [e.2.1]) h
theorem Below.size2 {B : Nat} {w wr : World} (h : Below w.heap.size w wr) : w.heap.size ≤ wr.heap.size := h.size
structure L1 (w wr : World) (pb bm xb sm sc : Nat) (spare : Int) (seen : List Int) (left : List (Int × Int)) (order : List Int) (vo : Value) : Prop where
  ln : Ln w.heap.size wr xb bm left order [] vo (.slice none 0 0)
  seen : IMap wr sm (bset seen)
  sc_ : wr.heap[sc]? = some (.cells #[.map (some sm)] 45 (0, 0))
  pb_ : wr.heap[pb]? = some (.cells #[.int .i64 spare] 3 (0, 0))
  below : Below w.heap.size w wr
  ne : sm ≠ bm
  lo : w.heap.size ≤ sm
  po : vo.ownBlock ≠ some pb
section
variable {w wr w' : World} {pb bm xb sm sc : Nat} {spare x y : Int} {seen seen' : List Int} {left left' : List (Int × Int)} {order order' : List Int} {vo vo' : Value}
theorem L1.plt (h : L1 w wr pb bm xb sm sc spare seen left order vo) : pb < wr.heap.size := (Array.getElem?_eq_some_iff.1 h.pb_).1
theorem L1.slt (h : L1 w wr pb bm xb sm sc spare seen left order vo) : sc < wr.heap.size := (Array.getElem?_eq_some_iff.1 h.sc_).1
theorem L1.step (h : L1 w wr pb bm xb sm sc spare seen left order vo) (hb : Below wr.heap.size wr w') : L1 w w' pb bm xb sm sc spare seen left order vo :=
  ⟨h.ln.below hb, h.seen.move (hb.block _ h.seen.lt), (hb.block _ h.slt).trans h.sc_, (hb.block _ h.plt).trans h.pb_, below_step h.below hb, h.ne, h.lo, h.po⟩
theorem L1.sx (h : L1 w wr pb bm xb sm sc spare seen left order vo) : xb ≠ sm := fun e => h.seen.not_cells (by rw [← e]; exact h.ln.blk)
theorem L1.ss (h : L1 w wr pb bm xb sm sc spare seen left order vo) : sc ≠ sm := fun e => h.seen.not_cells (by rw [← e]; exact h.sc_)
theorem L1.sp (h : L1 w wr pb bm xb sm sc spare seen left order vo) : pb ≠ sm := fun e => h.seen.not_cells (by rw [← e]; exact h.pb_)
theorem L1.bs (h : L1 w wr pb bm xb sm sc spare seen left order vo) : sc ≠ bm := fun e => h.ln.map.not_cells (by rw [← e]; exact h.sc_)
theorem L1.bp (h : L1 w wr pb bm xb sm sc spare seen left order vo) : pb ≠ bm := fun e => h.ln.map.not_cells (by rw [← e]; exact h.pb_)
theorem L1.so (h : L1 w wr pb bm xb sm sc spare seen left order vo) : vo.ownBlock ≠ some sm := by
  intro e
  obtain ⟨cells, hc⟩ := Kd.R_typed h.ln.ord sm e
  exact h.seen.not_cells hc
theorem L1.co (h : L1 w wr pb bm xb sm sc spare seen left order vo) : vo.ownBlock ≠ some sc := by
  intro e
  obtain ⟨cells, hc⟩ := Kd.R_typed h.ln.ord sc e
  rw [h.sc_] at hc
  injection hc with hc
  injection hc with _ hc
  cases hc
theorem L1.xp (h : L1 w wr pb bm xb sm sc spare seen left order vo) : xb ≠ pb := by
  intro e
  have h1 := h.ln.blk
  rw [e, h.pb_] at h1
  injection h1 with h1
  injection h1 with _ h1
  cases h1
theorem L1.xs (h : L1 w wr pb bm xb sm sc spare seen left order vo) : xb ≠ sc := by
  intro e
  have h1 := h.ln.blk
  rw [e, h.sc_] at h1
  injection h1 with h1
  injection h1 with _ h1
  cases h1
theorem some_ne {a b : Nat} (h : a ≠ b) : some a ≠ some b := fun e => h (Option.some.inj e)
theorem L1.put_seen (h : L1 w wr pb bm xb sm sc spare seen left order vo) (hM : IMap w' sm (bset seen')) (hg : wr.grownBy w' (some sm)) : L1 w w' pb bm xb sm sc spare seen' left order vo := by
  refine ⟨h.ln.move_ (fun k hk hc => hg.block k hk ?_), hM, (hg.block _ h.slt (some_ne h.ss)).trans h.sc_, (hg.block _ h.plt (some_ne h.sp)).trans h.pb_, h.below.grown hg h.below.size (fun k e => by cases e; exact h.lo), h.ne, h.lo, h.po⟩
  rcases hc with rfl | rfl | e | e
  · exact some_ne h.sx
  · exact some_ne (Ne.symm h.ne)
  · rw [← e]; exact h.so
  · cases e
theorem L1.put_left (h : L1 w wr pb bm xb sm sc spare seen left order vo) (hM : IMap w' bm (lfv left')) (hg : wr.drew.grownBy w' (some bm)) : L1 w w' pb bm xb sm sc spare seen left' order vo := by
  have hord : Kd.R (Kd.int .i64) 3 w' w.heap.size (fun _ => True) vo order := Kd.R_mono (Kd.R_grown (Kd.R_drew (ord_own (ok := fun k => vo.ownBlock = some k) h.ln.ord (fun k hk => hk))) hg (fun k hk => by rw [← hk]; exact Ne.symm h.ln.mo)) (fun _ _ => trivial)
  exact ⟨⟨(hg.block _ h.ln.xlt (some_ne h.ln.xne)).trans h.ln.blk, hM, hord, Kd.R_nil _ _ _ _ _, h.ln.num⟩, (IMap.drew h.seen).grown hg (some_ne h.ne), (hg.block _ h.slt (some_ne h.bs)).trans h.sc_, (hg.block _ h.plt (some_ne h.bp)).trans h.pb_, (below_drew h.below).grown hg h.below.size (fun k e => by cases e; exact h.ln.num.2), h.ne, h.lo, h.po⟩
theorem L1.grow (h : L1 w wr pb bm xb sm sc spare seen left order vo) (hg : wr.drew.grownBy w' vo.ownBlock) : w'.heap[xb]? = some (.cells #[.map (some bm), vo, .slice none 0 0] 52 (0, 0)) := (hg.block xb h.ln.xlt h.ln.xo).trans h.ln.blk
theorem L1.put_order (h : L1 w wr pb bm xb sm sc spare seen left order vo) (hR : Kd.R (Kd.int .i64) 3 w' w.heap.size (fun k => k ≠ pb) vo' order') (hg : wr.drew.grownBy w' vo.ownBlock) (hat : vo'.ownBlock = vo.ownBlock ∨ ∃ b, vo'.ownBlock = some b ∧ wr.drew.heap.size ≤ b) :
    L1 w (w'.setCell ⟨xb, 1, none⟩ vo') pb bm xb sm sc spare seen left order' vo' := by
  have hx := h.grow hg
  have hxo : ∀ k, vo'.ownBlock = some k → k ≠ xb := by
    rintro k hk rfl
    obtain ⟨cells, hc⟩ := Kd.R_typed hR k hk
    rw [hx] at hc
    injection hc with hc
    injection hc with _ hc
    cases hc
  refine ⟨⟨?_, ?_, ?_, Kd.R_nil _ _ _ _ _, h.ln.num⟩, ?_, ?_, ?_, ?_, h.ne, h.lo, fun e => (Kd.R_mono (Kd.R_bound hR) (fun k hk => hk.1)).1 pb e rfl⟩
  · have := heap_setCell_same w' xb 1 #[.map (some bm), vo, .slice none 0 0] 52 vo' hx
    simpa using this
  · exact IMap.setCell ((IMap.drew h.ln.map).grown hg h.ln.mo) _ _ (Ne.symm h.ln.xne)
  · exact Kd.R_mono (Kd.R_far (p := ⟨xb, 1, none⟩) (⟨fun k hk => hk, hR.2⟩ : Kd.R (Kd.int .i64) 3 w' w.heap.size (fun k => vo'.ownBlock = some k) vo' order') (fun k hk => hxo k hk) vo') (fun _ _ => trivial)
  · exact IMap.setCell ((IMap.drew h.seen).grown hg (Ne.symm h.so)) _ _ (Ne.symm h.sx)
  · rw [Below.heap_setCell _ _ _ _ (Ne.symm h.xs)]
    exact (hg.block _ h.slt (Ne.symm h.co)).trans h.sc_
  · rw [Below.heap_setCell _ _ _ _ (Ne.symm h.xp)]
    exact (hg.block _ h.plt (Ne.symm h.po)).trans h.pb_
  · exact ((below_drew h.below).grown hg h.below.size (fun k e => Kd.R_base h.ln.ord k e)).setCell h.ln.num.1 _
end
theorem imPut_lfv (left : List (Int × Int)) (x y : Int) (h : ∀ p ∈ left, p.1 ≠ x) : imPut (lfv left) x (.int .i64 y) = lfv (left ++ [(x, y)]) := by
  unfold imPut
  rw [if_neg]
  · simp [lfv]
  · intro ha
    obtain ⟨p, hp, e⟩ := List.any_eq_true.1 ha
    obtain ⟨q, hq, rfl⟩ := List.mem_map.1 hp
    exact h q hq (by simpa using e)
theorem cells2 {w : World} {b : Nat} {x y : Value} {t : TypeId} (h : w.heap[b]? = some (.cells #[x, y] t (0, 0))) : w.cell? ⟨b, 0, none⟩ = some x ∧ w.cell? ⟨b, 1, none⟩ = some y := by
  refine ⟨?_, ?_⟩
  · unfold World.cell?
    dsimp only
    rw [h]
    rfl
  · unfold World.cell?
    dsimp only
    rw [h]
    rfl
theorem L1.start (w : World) (spare : Int) : L1 w (((((w.alloc (.cells #[.int .i64 spare] 3)).alloc (.map #[] 0)).alloc (.cells #[.map (some (w.heap.size + 1)), .slice none 0 0, .slice none 0 0] 52)).alloc (.map #[] 0)).alloc (.cells #[.map (some (w.heap.size + 1 + 1 + 1))] 45))
    w.heap.size (w.heap.size + 1) (w.heap.size + 1 + 1) (w.heap.size + 1 + 1 + 1) (w.heap.size + 1 + 1 + 1 + 1) spare [] [] [] (.slice none 0 0) := by
  obtain ⟨w1, e1⟩ : ∃ w1, w1 = w.alloc (.cells #[.int .i64 spare] 3) := ⟨_, rfl⟩
  have s1 : w1.heap.size = w.heap.size + 1 := by rw [e1]; simp
  have p1 : w1.heap[w.heap.size]? = some (.cells #[.int .i64 spare] 3 (0, 0)) := by rw [e1]; exact heap_alloc_new w _
  have b1 : Below w.heap.size w w1 := by rw [e1]; exact below_alloc (Below.refl _ _) _
  rw [← e1]
  clear e1
  obtain ⟨w2, e2⟩ : ∃ w2, w2 = w1.alloc (.map #[] 0) := ⟨_, rfl⟩
  have s2 : w2.heap.size = w.heap.size + 1 + 1 := by rw [e2]; simp [s1]
  have m2 : IMap w2 (w.heap.size + 1) (lfv []) := by
    have := IMap.made w1
    rw [s1] at this
    rw [e2]
    exact this
  have p2 : w2.heap[w.heap.size]? = some (.cells #[.int .i64 spare] 3 (0, 0)) := by rw [e2, Below.heap_alloc _ _ _ (by omega)]; exact p1
  have b2 : Below w.heap.size w w2 := by rw [e2]; exact below_alloc b1 _
  rw [← e2]
  clear e2
  obtain ⟨w3, e3⟩ : ∃ w3, w3 = w2.alloc (.cells #[.map (some (w.heap.size + 1)), .slice none 0 0, .slice none 0 0] 52) := ⟨_, rfl⟩
  have s3 : w3.heap.size = w.heap.size + 1 + 1 + 1 := by rw [e3]; simp [s2]
  have x3 : w3.heap[w.heap.size + 1 + 1]? = some (.cells #[.map (some (w.heap.size + 1)), .slice none 0 0, .slice none 0 0] 52 (0, 0)) := by
    have := heap_alloc_new w2 (.cells #[.map (some (w.heap.size + 1)), .slice none 0 0, .slice none 0 0] 52 (0, 0))
    rw [s2] at this
    rw [e3]; exact this
  have m3 : IMap w3 (w.heap.size + 1) (lfv []) := by rw [e3]; exact m2.alloc _
  have p3 : w3.heap[w.heap.size]? = some (.cells #[.int .i64 spare] 3 (0, 0)) := by rw [e3, Below.heap_alloc _ _ _ (by omega)]; exact p2
  have b3 : Below w.heap.size w w3 := by rw [e3]; exact below_alloc b2 _
  rw [← e3]
  clear e3
  obtain ⟨w4, e4⟩ : ∃ w4, w4 = w3.alloc (.map #[] 0) := ⟨_, rfl⟩
  have s4 : w4.heap.size = w.heap.size + 1 + 1 + 1 + 1 := by rw [e4]; simp [s3]
  have n4 : IMap w4 (w.heap.size + 1 + 1 + 1) (bset []) := by
    have := IMap.made w3
    rw [s3] at this
    rw [e4]
    exact this
  have x4 : w4.heap[w.heap.size + 1 + 1]? = some (.cells #[.map (some (w.heap.size + 1)), .slice none 0 0, .slice none 0 0] 52 (0, 0)) := by rw [e4, Below.heap_alloc _ _ _ (by omega)]; exact x3
  have m4 : IMap w4 (w.heap.size + 1) (lfv []) := by rw [e4]; exact m3.alloc _
  have p4 : w4.heap[w.heap.size]? = some (.cells #[.int .i64 spare] 3 (0, 0)) := by rw [e4, Below.heap_alloc _ _ _ (by omega)]; exact p3
  have b4 : Below w.heap.size w w4 := by rw [e4]; exact below_alloc b3 _
  rw [← e4]
  clear e4
  have n5 := heap_alloc_new w4 (.cells #[.map (some (w.heap.size + 1 + 1 + 1))] 45 (0, 0))
  rw [s4] at n5
  exact ⟨⟨by rw [Below.heap_alloc _ _ _ (by omega)]; exact x4, m4.alloc _, Kd.R_nil _ _ _ _ _, Kd.R_nil _ _ _ _ _, by omega, by omega⟩, n4.alloc _, n5, by rw [Below.heap_alloc _ _ _ (by omega)]; exact p4, below_alloc b4 _, by omega, by omega, by simp [Value.ownBlock]⟩
end Go.Proofs.Ytafjbebbmfihaaa.P
