/- (*liner).move and (*liner).free: what is left to move, in memory; no condition. -/
import Derived.Test.YtafjbebbmfihaaaHRead
import Derived.Test.YtafjbebbmfihaaaHAfter
namespace Go.Proofs.Ytafjbebbmfihaaa.P
open Go.RowKit Go.Proofs.YtafjbebbmfihaaaW.PrintWords Go.Proofs.YtafjbebbmfihaaaW.PrintLast Go.Proofs.YtafjbebbmfihaaaW.PrintMore
set_option linter.unusedVariables false
set_option linter.unusedSimpArgs false
set_option linter.unusedSectionVars false

theorem cells3 {w : World} {b : Nat} {x y z : Value} {t : TypeId} (h : w.heap[b]? = some (.cells #[x, y, z] t (0, 0))) :
    w.cell? ⟨b, 0, none⟩ = some x ∧ w.cell? ⟨b, 1, none⟩ = some y ∧ w.cell? ⟨b, 2, none⟩ = some z ∧ w.frozen? ⟨b, 2, none⟩ = false ∧ w.frozen? ⟨b, 1, none⟩ = false := by
  refine ⟨?_, ?_, ?_, ?_, ?_⟩
  · unfold World.cell?
    dsimp only
    rw [h]
    rfl
  · unfold World.cell?
    dsimp only
    rw [h]
    rfl
  · unfold World.cell?
    dsimp only
    rw [h]
    rfl
  · unfold World.frozen?
    dsimp only
    rw [h]
    rfl
  · unfold World.frozen?
    dsimp only
    rw [h]
    rfl
/-- The liner: its block, its map, its two lists. -/
structure Ln (B : Nat) (w : World) (xb bm : Nat) (left : List (Int × Int)) (order : List Int) (out : List S38) (vo vu : Value) : Prop where
  blk : w.heap[xb]? = some (.cells #[.map (some bm), vo, vu] 52 (0, 0))
  map : IMap w bm (lfv left)
  ord : Kd.R (Kd.int .i64) 3 w B (fun _ => True) vo order
  res : Kd.R k38 38 w B (fun _ => True) vu out
  num : B ≤ xb ∧ B ≤ bm
/-- What a call on the liner leaves as it was. -/
structure KeepL (w w' : World) (xb bm : Nat) (vu : Value) : Prop where
  os : w'.os = w.os
  tape : w'.tape = w.tape
  output : w'.output = w.output
  size : w.heap.size ≤ w'.heap.size
  block : ∀ k, k < w.heap.size → k ≠ xb → k ≠ bm → some k ≠ vu.ownBlock → w'.heap[k]? = w.heap[k]?
section
variable {B : Nat} {w w' w'' : World} {xb bm : Nat} {left : List (Int × Int)} {order : List Int} {out : List S38} {vo vu vu' : Value}
theorem Ln.xlt (h : Ln B w xb bm left order out vo vu) : xb < w.heap.size := (Array.getElem?_eq_some_iff.1 h.blk).1
theorem Ln.xne (h : Ln B w xb bm left order out vo vu) : xb ≠ bm := fun e => (h.map).not_cells (by rw [← e]; exact h.blk)
theorem Ln.xu (h : Ln B w xb bm left order out vo vu) : some xb ≠ vu.ownBlock := by
  intro e
  obtain ⟨cells, hc⟩ := Kd.R_typed h.res xb e.symm
  rw [h.blk] at hc
  injection hc with hc
  injection hc with _ hc
  cases hc
theorem Ln.xo (h : Ln B w xb bm left order out vo vu) : some xb ≠ vo.ownBlock := by
  intro e
  obtain ⟨cells, hc⟩ := Kd.R_typed h.ord xb e.symm
  rw [h.blk] at hc
  injection hc with hc
  injection hc with _ hc
  cases hc
theorem Ln.mu (h : Ln B w xb bm left order out vo vu) : some bm ≠ vu.ownBlock := by
  intro e
  obtain ⟨cells, hc⟩ := Kd.R_typed h.res bm e.symm
  exact h.map.not_cells hc
theorem Ln.mo (h : Ln B w xb bm left order out vo vu) : some bm ≠ vo.ownBlock := by
  intro e
  obtain ⟨cells, hc⟩ := Kd.R_typed h.ord bm e.symm
  exact h.map.not_cells hc
theorem Ln.ou (h : Ln B w xb bm left order out vo vu) : ∀ k, vo.ownBlock = some k → some k ≠ vu.ownBlock := by
  intro k hk e
  obtain ⟨cells, hc⟩ := Kd.R_typed h.ord k hk
  obtain ⟨cells2, hc2⟩ := Kd.R_typed h.res k e.symm
  rw [hc] at hc2
  injection hc2 with hc2
  injection hc2 with _ hc2
  cases hc2
theorem ord_own {ok : Nat → Prop} (h : Kd.R (Kd.int .i64) 3 w B (fun _ => True) vo order) (hok : ∀ k, vo.ownBlock = some k → ok k) : Kd.R (Kd.int .i64) 3 w B ok vo order := ⟨hok, h.2⟩
theorem res_own {ok : Nat → Prop} (h : Kd.R k38 38 w B (fun _ => True) vu out) (hok : ∀ k, vu.ownBlock = some k → ok k) : Kd.R k38 38 w B ok vu out := ⟨hok, h.2⟩
/-- Nothing of it has turned. -/
theorem Ln.move_ (h : Ln B w xb bm left order out vo vu) (hb : ∀ k, k < w.heap.size → (k = xb ∨ k = bm ∨ vo.ownBlock = some k ∨ vu.ownBlock = some k) → w'.heap[k]? = w.heap[k]?) : Ln B w' xb bm left order out vo vu := by
  refine ⟨(hb xb h.xlt (.inl rfl)).trans h.blk, h.map.move (hb bm h.map.lt (.inr (.inl rfl))), ?_, ?_, h.num⟩
  · exact Kd.R_mono (Kd.R_step (ord_own (ok := fun k => vo.ownBlock = some k) h.ord (fun k hk => hk)) (fun k hk hlt => hb k hlt (.inr (.inr (.inl hk))))) (fun _ _ => trivial)
  · exact Kd.R_mono (Kd.R_step (res_own (ok := fun k => vu.ownBlock = some k) h.res (fun k hk => hk)) (fun k hk hlt => hb k hlt (.inr (.inr (.inr hk))))) (fun _ _ => trivial)
theorem Ln.below (h : Ln B w xb bm left order out vo vu) (hb : Below w.heap.size w w') : Ln B w' xb bm left order out vo vu := h.move_ (fun k hk _ => hb.block k hk)
theorem KeepL.refl (w : World) (xb bm : Nat) (vu : Value) : KeepL w w xb bm vu := ⟨rfl, rfl, rfl, Nat.le_refl _, fun _ _ _ _ _ => rfl⟩
theorem KeepL.trans (h : KeepL w w' xb bm vu) (k : KeepL w' w'' xb bm vu') (hu : vu'.ownBlock = vu.ownBlock ∨ ∃ b, vu'.ownBlock = some b ∧ w.heap.size ≤ b) : KeepL w w'' xb bm vu := by
  refine ⟨k.os.trans h.os, k.tape.trans h.tape, k.output.trans h.output, Nat.le_trans h.size k.size, fun j hj h1 h2 h3 => ?_⟩
  rw [k.block j (Nat.lt_of_lt_of_le hj h.size) h1 h2 ?_]
  · exact h.block j hj h1 h2 h3
  · rcases hu with e | ⟨b, e, hb⟩
    · rw [e]; exact h3
    · rw [e]
      intro e2
      injection e2 with e2
      omega
theorem KeepL.below (h : Below w.heap.size w w') (xb bm : Nat) (vu : Value) : KeepL w w' xb bm vu := ⟨h.os, h.tape, h.output, h.size, fun k hk _ _ _ => h.block k hk⟩
theorem KeepL.base (h : KeepL w w' xb bm vu) (hL : Ln B w xb bm left order out vo vu) {w0 : World} (h0 : Below B w0 w) : Below B w0 w' := by
  refine h0.trans ⟨h.os, h.tape, h.output, h.size, fun k hk => h.block k ?_ ?_ ?_ ?_⟩
  · have := hL.xlt; have := hL.num.1; omega
  · have := hL.num.1; omega
  · have := hL.num.2; omega
  · intro e
    have := Kd.R_base hL.res k e.symm
    omega
/-- Behind an append to the list of moves. -/
theorem Ln.grow (h : Ln B w xb bm left order out vo vu) {w1 : World} (hg : w.drew.grownBy w1 vu.ownBlock) : w1.heap[xb]? = some (.cells #[.map (some bm), vo, vu] 52 (0, 0)) ∧ IMap w1 bm (lfv left) ∧ Kd.R (Kd.int .i64) 3 w1 B (fun k => vo.ownBlock = some k) vo order := by
  refine ⟨(hg.block xb h.xlt h.xu).trans h.blk, (IMap.drew h.map).grown hg h.mu, ?_⟩
  exact Kd.R_grown (Kd.R_drew (ord_own (ok := fun k => vo.ownBlock = some k) h.ord (fun k hk => hk))) hg (fun k hk => h.ou k hk)
end
theorem imGet_lfv (left : List (Int × Int)) (a : Int) : imGet (lfv left) a = (lf_get left a).map (Value.int .i64) := by
  unfold imGet lf_get lfv
  rw [List.find?_map]
  cases h : left.find? ((fun p : Int × Value => p.1 == a) ∘ fun p => (p.1, Value.int .i64 p.2)) with
  | none =>
    have : left.find? (fun p => p.1 == a) = none := h
    rw [this]
    rfl
  | some p =>
    have : left.find? (fun p => p.1 == a) = some p := h
    rw [this]
    rfl
theorem imDel_lfv (left : List (Int × Int)) (a : Int) : imDel (lfv left) a = lfv (lf_del left a) := by
  unfold imDel lf_del lfv
  rw [List.filter_map]
  rfl
theorem look_run {W : World} {bm : Nat} {left : List (Int × Int)} {a b : Int} (h : IMap W bm (lfv left)) (hb : lf_get left a = some b) : (Instr.lookup 50 (.map (some bm)) (.int .i64 a) false).run Try.prog W = .ok (.int .i64 b) W := by
  rw [h.look Try.underlying50 Try.underlying3 (zero3 W) a false, imGet_lfv, hb]
  rfl
def MovePost (B : Nat) (w : World) (xb bm : Nat) (left : List (Int × Int)) (order : List Int) (out : List S38) (vo vu : Value) (e : Ending) (w' : World) : Prop :=
  e = .returned (.tuple #[]) ∧ ∃ vu', Ln B w' xb bm left order out vo vu' ∧ KeepL w w' xb bm vu ∧ (vu'.ownBlock = vu.ownBlock ∨ ∃ b, vu'.ownBlock = some b ∧ w.heap.size ≤ b)
theorem move_end {B : Nat} {w w3 w4 : World} {xb bm : Nat} {left left' : List (Int × Int)} {order : List Int} {out out' : List S38} {vo vu vu' : Value} (hN : Ln B w xb bm left order out vo vu)
    (h2 : w3.heap[xb]? = some (.cells #[.map (some bm), vo, vu] 52 (0, 0)) ∧ IMap w3 bm (lfv left) ∧ Kd.R (Kd.int .i64) 3 w3 B (fun k => vo.ownBlock = some k) vo order)
    (hR : Kd.R k38 38 w3 B (fun _ => True) vu' out') (hg : w.drew.grownBy w3 vu.ownBlock) (hat : vu'.ownBlock = vu.ownBlock ∨ ∃ b, vu'.ownBlock = some b ∧ w.drew.heap.size ≤ b)
    (hM : IMap w4 bm (lfv left')) (hg4 : (w3.setCell ⟨xb, 2, none⟩ vu').grownBy w4 (some bm)) : MovePost B w xb bm left' order out' vo vu (.returned (.tuple #[])) w4 := by
  obtain ⟨hx, hm, ho⟩ := h2
  have hxlt : xb < w3.heap.size := (Array.getElem?_eq_some_iff.1 hx).1
  have hsz : (w3.setCell ⟨xb, 2, none⟩ vu').heap.size = w3.heap.size := by unfold World.setCell; simp
  have hxu' : ∀ k, vu'.ownBlock = some k → k ≠ xb := by
    rintro k hk rfl
    obtain ⟨cells, hc⟩ := Kd.R_typed hR k hk
    rw [hx] at hc
    injection hc with hc
    injection hc with _ hc
    cases hc
  have hmu' : ∀ k, vu'.ownBlock = some k → some k ≠ some bm := by
    intro k hk e
    injection e with e
    subst e
    obtain ⟨cells, hc⟩ := Kd.R_typed hR k hk
    exact hm.not_cells hc
  have hxo : ∀ k, vo.ownBlock = some k → k ≠ xb := fun k hk e => hN.xo (by rw [hk, e])
  have hmo : ∀ k, vo.ownBlock = some k → some k ≠ some bm := fun k hk e => hN.mo (by rw [hk]; exact e.symm)
  refine ⟨rfl, vu', ⟨?_, hM, ?_, ?_, hN.num⟩, ⟨?_, ?_, ?_, ?_, ?_⟩, hat⟩
  · rw [hg4.block xb (by rw [hsz]; exact hxlt) (fun e => by injection e with e; exact hN.xne e)]
    have := heap_setCell_same w3 xb 2 #[.map (some bm), vo, vu] 52 vu' hx
    simpa using this
  · exact Kd.R_mono (Kd.R_grown (Kd.R_far (p := ⟨xb, 2, none⟩) ho (fun k hk => hxo k hk) vu') hg4 (fun k hk => hmo k hk)) (fun _ _ => trivial)
  · exact Kd.R_mono (Kd.R_grown (Kd.R_far (p := ⟨xb, 2, none⟩) (res_own (ok := fun k => vu'.ownBlock = some k) hR (fun k hk => hk)) (fun k hk => hxu' k hk) vu') hg4 (fun k hk => hmu' k hk)) (fun _ _ => trivial)
  · exact hg4.os.trans hg.os
  · exact hg4.tape.trans hg.tape
  · exact hg4.output.trans hg.output
  · have h1 := hg.size
    have h2 := hg4.size
    rw [hsz] at h2
    exact Nat.le_trans h1 h2
  · intro k hk hkx hkm hku
    have hk3 : k < w3.heap.size := Nat.lt_of_lt_of_le hk hg.size
    rw [hg4.block k (by rw [hsz]; exact hk3) (fun e => by injection e with e; exact hkm e), Below.heap_setCell _ _ _ _ hkx]
    exact hg.block k hk hku
set_option maxHeartbeats 4000000 in
set_option maxRecDepth 100000 in
theorem move_calls (B : Nat) (xb bm : Nat) (left : List (Int × Int)) (order : List Int) (out : List S38) (vo vu : Value) (to_ b : Int) (w : World) (hN : Ln B w xb bm left order out vo vu) (hget : lf_get left to_ = some b) (hl : out.length < 2000000) :
    Calls Try.prog 38 #[ptr xb, .int .i64 to_] w (MovePost B w xb bm (lf_del left to_) order (out ++ [⟨to_, b⟩]) vo vu) := by
  obtain ⟨A, c, hv⟩ := Kd.R_slice hN.res
  subst hv
  obtain ⟨hc0, hc1, hc2, _⟩ := cells3 hN.blk
  have HGET := Aside0.mk hget
  have HLN := Aside0.mk hl
  have HSZ : Aside0 (B ≤ w.heap.size) := ⟨by have := hN.xlt; have := hN.num.1; omega⟩
  have HN := Aside0.mk hN
  clear hN hget hl hc1
  go_enter Try.func38, Try.ntmps38
  go_wp2_with fail
  refine start_ (n := 18) (S := fun w' => w'.cell? ⟨xb, 2, none⟩ = some (.slice A out.length c) ∧ w'.cell? ⟨xb, 0, none⟩ = some (.map (some bm)) ∧ (Instr.lookup 50 (.map (some bm)) (.int .i64 to_) false).run Try.prog w' = .ok (.int .i64 b) w') (ds := [14, 15, 16, 17]) #[false, false, false, false, false, false, false, false, false, false, false, false, false, false, false, false, false, false] (by kernel_rfl) rfl rfl ⟨hc2, hc0, look_run (IMap.drew HN.out.map) HGET.out⟩ (fun hHeld => ?_)
  refine pure_ (i := 0) (N := some 4) (v := ?_) (a' := ?_) #[true, false, false, false, false, false, false, false, false, false, false, false, false, false, false, false, false, false] rfl rfl (by kernel_rfl) (fun _ _ _ h => h) (Or.inl ⟨by rfl, ?_⟩) ?_ ?_
  rotate_left
  · intro w'
    go_simp
    with_reducible rfl
  rotate_left
  · simp only [Act.put, List.setIfInBounds_toArray, List.set_cons_zero, List.set_cons_succ, i64_w, i32_w]
    rfl
  refine pure_ (i := 1) (N := some 5) (v := ?_) (a' := ?_) #[true, true, false, false, false, false, false, false, false, false, false, false, false, false, false, false, false, false] rfl rfl (by kernel_rfl) (fun _ _ _ h => h) (Or.inl ⟨by rfl, ?_⟩) ?_ ?_
  rotate_left
  · intro w'
    go_simp
    with_reducible rfl
  rotate_left
  · simp only [Act.put, List.setIfInBounds_toArray, List.set_cons_zero, List.set_cons_succ, i64_w, i32_w]
    rfl
  refine pure_ (i := 2) (N := some 6) (v := ?_) (a' := ?_) #[true, true, true, false, false, false, false, false, false, false, false, false, false, false, false, false, false, false] rfl rfl (by kernel_rfl) (fun _ _ _ h => h) (Or.inl ⟨by rfl, ?_⟩) ?_ ?_
  rotate_left
  · intro w'
    go_simp
    with_reducible rfl
  rotate_left
  · simp only [Act.put, List.setIfInBounds_toArray, List.set_cons_zero, List.set_cons_succ, i64_w, i32_w]
    rfl
  refine pure_ (i := 3) (N := some 7) (v := ?_) (a' := ?_) #[true, true, true, true, false, false, false, false, false, false, false, false, false, false, false, false, false, false] rfl rfl (by kernel_rfl) (fun _ _ _ h => h) (Or.inl ⟨by rfl, ?_⟩) ?_ ?_
  rotate_left
  · intro w'
    go_simp
    with_reducible rfl
  rotate_left
  · simp only [Act.put, List.setIfInBounds_toArray, List.set_cons_zero, List.set_cons_succ, i64_w, i32_w]
    rfl
  refine pure_ (i := 5) (N := some 9) (v := ?_) (a' := ?_) #[true, true, true, true, false, true, false, false, false, false, false, false, false, false, false, false, false, false] rfl rfl (by kernel_rfl) (fun _ _ _ h => h) (Or.inl ⟨by rfl, ?_⟩) ?_ ?_
  rotate_left
  · intro w'
    go_simp
    with_reducible rfl
  rotate_left
  · simp only [Act.put, List.setIfInBounds_toArray, List.set_cons_zero, List.set_cons_succ, i64_w, i32_w]
    rfl
  refine pure_ (i := 6) (N := some 10) (v := ?_) (a' := ?_) #[true, true, true, true, false, true, true, false, false, false, false, false, false, false, false, false, false, false] rfl rfl (by kernel_rfl) (fun _ _ _ h => h) (Or.inl ⟨by rfl, ?_⟩) ?_ ?_
  rotate_left
  · intro w'
    go_simp
    with_reducible rfl
  rotate_left
  · simp only [Act.put, List.setIfInBounds_toArray, List.set_cons_zero, List.set_cons_succ, i64_w, i32_w]
    rfl
  refine pure_ (i := 7) (N := some 11) (v := ?_) (a' := ?_) #[true, true, true, true, false, true, true, true, false, false, false, false, false, false, false, false, false, false] rfl rfl (by kernel_rfl) (fun _ _ _ h => h) (Or.inl ⟨by rfl, ?_⟩) ?_ ?_
  rotate_left
  · intro w'
    go_simp
    with_reducible rfl
  rotate_left
  · simp only [Act.put, List.setIfInBounds_toArray, List.set_cons_zero, List.set_cons_succ, i64_w, i32_w]
    rfl
  refine pure_ (i := 8) (N := some 12) (v := ?_) (a' := ?_) #[true, true, true, true, false, true, true, true, true, false, false, false, false, false, false, false, false, false] rfl rfl (by kernel_rfl) (fun _ _ _ h => h) (Or.inl ⟨by rfl, ?_⟩) ?_ ?_
  rotate_left
  · intro w'
    go_simp
    with_reducible rfl
  rotate_left
  · simp only [Act.put, List.setIfInBounds_toArray, List.set_cons_zero, List.set_cons_succ, i64_w, i32_w]
    rfl
  refine pure_ (i := 10) (N := some 14) (v := ?_) (a' := ?_) #[true, true, true, true, false, true, true, true, true, false, true, false, false, false, false, false, false, false] rfl rfl (by kernel_rfl) (fun _ _ _ h => h) (Or.inl ⟨by rfl, ?_⟩) ?_ ?_
  rotate_left
  · intro w'
    go_simp
    with_reducible rfl
  rotate_left
  · simp only [Act.put, List.setIfInBounds_toArray, List.set_cons_zero, List.set_cons_succ, i64_w, i32_w]
    rfl
  refine take_ (i := 4) (N := some 8) (v := ?_) (a' := ?_) #[true, true, true, true, true, true, true, true, true, false, true, false, false, false, false, false, false, false] rfl rfl (by kernel_rfl) (fun _ _ _ h => h) (Or.inl ⟨by rfl, ?_⟩) hHeld ?_ ?_
  rotate_left
  · rintro w' ⟨s0, s1, s2⟩
    go_simp
    with_reducible rfl
  rotate_left
  · simp only [Act.put, List.setIfInBounds_toArray, List.set_cons_zero, List.set_cons_succ, i64_w, i32_w]
    rfl
  refine take_ (i := 9) (N := some 13) (v := ?_) (a' := ?_) #[true, true, true, true, true, true, true, true, true, true, true, false, false, false, false, false, false, false] rfl rfl (by kernel_rfl) (fun _ _ _ h => h) (Or.inl ⟨by rfl, ?_⟩) hHeld ?_ ?_
  rotate_left
  · rintro w' ⟨s0, s1, s2⟩
    go_simp
    with_reducible rfl
  rotate_left
  · simp only [Act.put, List.setIfInBounds_toArray, List.set_cons_zero, List.set_cons_succ, i64_w, i32_w]
    rfl
  refine take_ (i := 11) (N := some 15) (v := ?_) (a' := ?_) #[true, true, true, true, true, true, true, true, true, true, true, true, false, false, false, false, false, false] rfl rfl (by kernel_rfl) (fun _ _ _ h => h) (Or.inl ⟨by rfl, ?_⟩) hHeld ?_ ?_
  rotate_left
  · rintro w' ⟨s0, s1, s2⟩
    go_simp
    with_reducible rfl
  rotate_left
  · simp only [Act.put, List.setIfInBounds_toArray, List.set_cons_zero, List.set_cons_succ, i64_w, i32_w]
    rfl
  refine pure_ (i := 12) (N := some 16) (v := ?_) (a' := ?_) #[true, true, true, true, true, true, true, true, true, true, true, true, true, false, false, false, false, false] rfl rfl (by kernel_rfl) (fun _ _ _ h => h) (Or.inl ⟨by rfl, ?_⟩) ?_ ?_
  rotate_left
  · intro w'
    go_simp
    with_reducible rfl
  rotate_left
  · simp only [Act.put, List.setIfInBounds_toArray, List.set_cons_zero, List.set_cons_succ, i64_w, i32_w]
    rfl
  refine one_ (i := 13) (N := some 17) #[true, true, true, true, true, true, true, true, true, true, true, true, true, true, false, false, false, false] rfl rfl (by kernel_rfl) (by decide) (fun K hK => ?_)
  refine value_ (w1 := ?_) (v := ?_) (by rfl) rfl ?_ ?_
  rotate_left 2
  · go_simp
    constructor
    · rfl
    · rfl
  refine hK.out _ _ ⟨cell_alloc hHeld.1 _, cell_alloc hHeld.2.1 _, look_run (IMap.alloc (IMap.drew HN.out.map) _) HGET.out⟩ (fun hHeld => ?_)
  clear hK K
  refine norm_ (a' := ?_) ?_ ?_
  rotate_left
  · show Act.put _ (some 17) _ = _
    simp only [Act.put, List.setIfInBounds_toArray, List.set_cons_zero, List.set_cons_succ, i64_w, i32_w]
    rfl
  refine last_ (i := 14) (N := some 18) #[true, true, true, true, true, true, true, true, true, true, true, true, true, true, true, false, false, false] rfl rfl (by kernel_rfl) (by decide) (fun K hK => ?_)
  refine Kd.R_append_step k38 (w0 := w) (W := w.drew) B (by rfl) (.tmp 8) (.tmp 17) 29 38 (.agg #[.int .i64 0, .int .i64 0]) 16 rfl Try.underlying29 info38 rfl (by decide) (by omega) (.slice A out.length c) out ⟨to_, b⟩ [.int .i64 to_, .int .i64 b] (fun _ => True) (fun _ => False) rfl rfl (k38_mkM _ _ _ _) (fun _ hk => hk.elim) (fun _ _ => trivial) (Kd.R_drew HN.out.res) (below_drew (Below.refl _ _)) HSZ.out (by have := HLN.out; omega) ?_
  intro v1 w3 hr1 hb1 hg1 hat1
  obtain ⟨A1, c1, hv1⟩ := Kd.R_slice hr1
  rw [List.length_append, List.length_singleton] at hv1
  subst hv1
  have hn2 := Ln.grow HN.out hg1
  have hcx := cells3 (hn2.1)
  have hcell3 := hcx.2.2.1
  have hfr3 := hcx.2.2.2
  have hmap3 := hcx.1
  have HR1 := Aside0.mk hr1
  have HN2 := Aside0.mk hn2
  have HG1 := Aside0.mk hg1
  have HAT1 := Aside0.mk hat1
  clear hr1 hb1 hg1 hat1 hn2 hcx
  refine hK.out _ _ ?_
  clear hK K
  refine norm_ (a' := ?_) ?_ ?_
  rotate_left
  · show Act.put _ (some 18) _ = _
    simp only [Act.put, List.setIfInBounds_toArray, List.set_cons_zero, List.set_cons_succ, i64_w, i32_w]
    rfl
  refine pure_ (i := 15) (N := some 19) (v := ?_) (a' := ?_) #[true, true, true, true, true, true, true, true, true, true, true, true, true, true, true, true, false, false] rfl rfl (by kernel_rfl) (fun _ _ _ h => h) (Or.inl ⟨by rfl, ?_⟩) ?_ ?_
  rotate_left
  · intro w'
    go_simp
    with_reducible rfl
  rotate_left
  · simp only [Act.put, List.setIfInBounds_toArray, List.set_cons_zero, List.set_cons_succ, i64_w, i32_w]
    rfl
  refine pure_ (i := 16) (N := some 20) (v := ?_) (a' := ?_) #[true, true, true, true, true, true, true, true, true, true, true, true, true, true, true, true, true, false] rfl rfl (by kernel_rfl) (fun _ _ _ h => h) (Or.inl ⟨by rfl, ?_⟩) ?_ ?_
  rotate_left
  · intro w'
    go_simp
    with_reducible rfl
  rotate_left
  · simp only [Act.put, List.setIfInBounds_toArray, List.set_cons_zero, List.set_cons_succ, i64_w, i32_w]
    rfl
  refine last_ (i := 17) (N := none) #[true, true, true, true, true, true, true, true, true, true, true, true, true, true, true, true, true, true] rfl rfl (by kernel_rfl) (by decide) (fun K hK => ?_)
  refine skip_ (w1 := ?_) (by rfl) rfl ?_ ?_
  rotate_left
  · go_simp
    rfl
  refine hK.out _ _ ?_
  clear hK K
  refine done_ (by kernel_rfl) ?_
  go_wp2_with (at_delete; go_must (refine wpList_im_del rfl _ _ 50 3 3 rfl Try.underlying50 Try.underlying3 bm (lfv left) rfl (IMap.setCell HN2.out.2.1 ⟨xb, 2, none⟩ _ (Ne.symm HN.out.xne)) to_ rfl ?_; intro w4 hM4 hg4; rw [imDel_lfv] at hM4; have HM4 := Aside0.mk hM4; have HG4 := Aside0.mk hg4; clear hM4 hg4))
  go_end0
  exact move_end HN.out HN2.out HR1.out HG1.out HAT1.out HM4.out HG4.out
end Go.Proofs.Ytafjbebbmfihaaa.P
