/- A loop over a map with keys of type int, entry by entry, in whichever order; a store at a key that is there, on the way; no condition. -/
import Derived.Test.YtafjbebbmfihaaaMaps
namespace Go.Proofs.Ytafjbebbmfihaaa
open Go.RowKit Go.MapKept
open Go.ChangeMaps (setBlock)
set_option linter.unusedVariables false
set_option linter.unusedSimpArgs false
set_option linter.unusedSectionVars false

/-- Block r goes through the map in block b, whose entries are l, with the stamps bn; those of the stamps seen have been out. -/
def RIt (w : World) (r b : Nat) (l : List (Int × Value)) (bn seen : List Nat) : Prop :=
  ∃ es clock since c0 sn, w.heap[b]? = some (.map es clock) ∧ (es.toList.map fun e => (e.key, e.val)) = l.map (fun p => (Value.int .i64 p.1, p.2)) ∧ Stamped es clock ∧ es.toList.map (·.born) = bn ∧ w.heap[r]? = some (.mapIter (some b) since sn c0) ∧ (∀ x ∈ es.toList, x.born < since) ∧ since ≤ c0 ∧ c0 ≤ clock ∧ sn.toList = seen
section
variable {P : Program} {w : World} {r b : Nat} {l : List (Int × Value)} {bn seen : List Nat} {t kt et : TypeId}
theorem RIt.map_ (h : RIt w r b l bn seen) : IMap w b l := by
  obtain ⟨es, clock, since, c0, sn, h1, h2, h3, _⟩ := h
  exact ⟨es, clock, h1, h2, h3⟩
theorem RIt.lens (h : RIt w r b l bn seen) : bn.length = l.length ∧ bn.Nodup := by
  obtain ⟨es, clock, since, c0, sn, h1, h2, h3, h4, _⟩ := h
  have := congrArg List.length h2
  simp only [List.length_map] at this
  exact ⟨by rw [← h4, List.length_map]; exact this, by rw [← h4]; exact h3.2.1⟩
theorem RIt.move (h : RIt w r b l bn seen) {w' : World} (hb : w'.heap[b]? = w.heap[b]?) (hr : w'.heap[r]? = w.heap[r]?) : RIt w' r b l bn seen := by
  obtain ⟨es, clock, since, c0, sn, h1, h2, h3, h4, h5, h6⟩ := h
  exact ⟨es, clock, since, c0, sn, hb.trans h1, h2, h3, h4, hr.trans h5, h6⟩
theorem RIt.ne (h : RIt w r b l bn seen) : r ≠ b := by
  obtain ⟨es, clock, since, c0, sn, h1, h2, h3, h4, h5, h6⟩ := h
  intro e
  rw [e, h1] at h5
  cases h5
theorem IMap.range (h : IMap w b l) (ht : P.underlying t = some (.map kt et)) :
    ∃ bn o, (Instr.range t (.map (some b))).run P w = .ok (.pointer (some ⟨w.heap.size, 0, none⟩)) (w.alloc o) ∧ RIt (w.alloc o) w.heap.size b l bn [] := by
  have hlt := h.lt
  obtain ⟨es, clock, hb, hl, hs⟩ := h
  exact ⟨_, _, run_range_map w t kt et b es clock ht hb, es, clock, clock, clock, #[], ((heap_alloc w _).2 b hlt).trans hb, hl, hs, rfl, (heap_alloc w _).1, hs.1, Nat.le_refl _, Nat.le_refl _, rfl⟩
theorem RIt.next (h : RIt w r b l bn seen) (ty : TypeId) :
    ((∀ x ∈ bn, x ∈ seen) ∧ (Instr.next (.pointer (some ⟨r, 0, none⟩)) false ty).run P w = .ok (.tuple #[.bool false]) w) ∨
    ∃ (j : Nat) (hj : j < l.length) (hb : j < bn.length) (w' : World), bn[j] ∉ seen ∧ (Instr.next (.pointer (some ⟨r, 0, none⟩)) false ty).run P w = .ok (.tuple #[.bool true, .int .i64 l[j].1, l[j].2]) w' ∧ RIt w' r b l bn (seen ++ [bn[j]]) ∧
      (Instr.entry (.pointer (some ⟨r, 0, none⟩))).run P w' = .ok (.tuple #[.int .i64 l[j].1, l[j].2]) w' ∧ w.grownBy w' (some r) ∧ w'.heap.size = w.heap.size := by
  have hne := h.ne
  obtain ⟨es, clock, since, c0, sn, h1, h2, h3, h4, h5, h6, h7, h8, h9⟩ := h
  have hll : es.toList.length = l.length := by simpa using congrArg List.length h2
  rcases run_next_at (P := P) w ty r b since c0 sn es clock h5 h1 h6 h7 with ⟨hz, hrun⟩ | ⟨e, he, w1, hw1, hrun⟩
  · left
    refine ⟨fun x hx => ?_, hrun⟩
    rw [← h4] at hx
    obtain ⟨y, hy, rfl⟩ := List.mem_map.1 hx
    have := all_seen es sn hz y hy
    rw [← h9]
    exact Array.mem_toList_iff.2 (Array.contains_iff_mem.1 this)
  · right
    obtain ⟨hes, hns⟩ := mem_left he
    obtain ⟨j, hj, hje⟩ := List.getElem_of_mem hes
    have hjl : j < l.length := by omega
    have hjb : j < bn.length := by rw [← h4, List.length_map]; exact hj
    have hkv : (e.key, e.val) = (Value.int .i64 l[j].1, l[j].2) := by
      have : (es.toList.map fun e => (e.key, e.val))[j]? = (l.map (fun p => (Value.int .i64 p.1, p.2)))[j]? := by rw [h2]
      rw [List.getElem?_map, List.getElem?_map, List.getElem?_eq_getElem hj, List.getElem?_eq_getElem hjl, hje] at this
      exact Option.some.inj this
    rw [Prod.mk.injEq] at hkv
    have hbj : bn[j] = e.born := by
      simp only [← h4, List.getElem_map, hje]
    have hsn : bn[j] ∉ seen := by
      rw [hbj, ← h9]
      intro hm
      have := Array.contains_iff_mem.2 (Array.mem_toList_iff.1 hm)
      rw [hns] at this
      cases this
    have hheap : ∀ k : Nat, w1.heap[k]? = w.heap[k]? := by rcases hw1 with rfl | rfl <;> exact fun _ => rfl
    have hsz : w1.heap.size = w.heap.size := by rcases hw1 with rfl | rfl <;> rfl
    have hrlt : r < w1.heap.size := by rw [hsz]; exact (Array.getElem?_eq_some_iff.1 h5).1
    have hset : ∀ o : Obj, (setBlock w1 r o).heap[r]? = some o := fun o => by simp [setBlock, hrlt]
    have hoth : ∀ (o : Obj) (k : Nat), k ≠ r → (setBlock w1 r o).heap[k]? = w.heap[k]? := fun o k hk => by rw [← hheap k]; simp [setBlock, Ne.symm hk]
    refine ⟨j, hjl, hjb, _, hsn, by rw [hrun, hkv.1, hkv.2], ⟨es, clock, since, clock, sn.push e.born, (hoth _ b (Ne.symm hne)).trans h1, h2, h3, h4, hset _, h6, by omega, Nat.le_refl _, by rw [Array.toList_push, h9, hbj]⟩, ?_, ?_, by simp [setBlock, hsz]⟩
    · rw [run_entry_at _ r b since sn es clock e (hset _) ((hoth _ b (Ne.symm hne)).trans h1) hes h3.2.1, hkv.1, hkv.2]
    · refine ⟨?_, ?_, ?_, by simp [setBlock, hsz], fun k _ hk => hoth _ k (fun e => hk (by rw [e]))⟩
      · rcases hw1 with rfl | rfl <;> rfl
      · rcases hw1 with rfl | rfl <;> rfl
      · rcases hw1 with rfl | rfl <;> rfl
/-- A store at a key that is there: the stamps stay. -/
theorem RIt.put (h : RIt w r b l bn seen) (ht : P.underlying t = some (.map kt et)) (hk : P.underlying kt = some (.int .i64)) (j : Nat) (hj : j < l.length) (u : Value) :
    ∃ w1, (Instr.mapUpdate t (.map (some b)) (.int .i64 l[j].1) u).run P w = .ok () w1 ∧ RIt w1 r b (l.set j (l[j].1, u)) bn seen ∧ w.grownBy w1 (some b) := by
  have hne := h.ne
  obtain ⟨es, clock, since, c0, sn, h1, hl, hs, h4, h5, h6, h7, h8, h9⟩ := h
  obtain ⟨hks, hat⟩ := im_keys hl
  have hf := im_findNow es.toList l l[j].1 0 hl
  have hkey : IsKey (.int .i64) (.int .i64 l[j].1) := rfl
  have hc := run_checkKey (P := P) (w := w) (k := .int .i64 l[j].1) hk hkey false 9999
  have hnd : (l.map (·.1)).Nodup := by
    have h3 := hs.2.2
    have e1 : es.toList.map (·.key) = (l.map (·.1)).map (Value.int .i64) := by
      have := congrArg (List.map Prod.fst) hl
      simpa [List.map_map, Function.comp_def] using this
    rw [e1] at h3
    exact List.Pairwise.imp (fun hne e => hne (by rw [e])) (List.pairwise_map.1 h3)
  have hi : l.findIdx? (fun p => p.1 == l[j].1) = some j := by
    rw [List.findIdx?_eq_some_iff_getElem]
    refine ⟨hj, by simp, fun i hij hpi => ?_⟩
    have hil : i < l.length := by omega
    have h0 : l[i].1 = l[j].1 := by simpa using hpi
    have h1 : (l.map (·.1))[i]'(by simpa using hil) = (l.map (·.1))[j]'(by simpa using hj) := by simpa using h0
    have := (List.getElem_inj (h₀ := by simpa using hil) (h₁ := by simpa using hj) hnd).1 h1
    omega
  rw [hi] at hf
  have hej : ∃ e, es[j]? = some e ∧ e.key = .int .i64 l[j].1 := by
    have := hat j
    rw [List.getElem?_eq_getElem hj] at this
    cases he : es[j]? with
    | none => rw [he] at this; cases this
    | some e =>
      rw [he] at this
      simp only [Option.map_some, Option.some.injEq, Prod.mk.injEq] at this
      exact ⟨e, rfl, this.1⟩
  obtain ⟨e, he, hek⟩ := hej
  simp only [Option.bind_some, List.getElem?_eq_getElem hj, Option.map_some, Nat.zero_add] at hf
  have hborn : (es.modify j fun e => { e with key := .int .i64 l[j].1, val := u }).toList.map (·.born) = es.toList.map (·.born) := by
    apply List.ext_getElem?
    intro i
    simp only [List.getElem?_map, Array.getElem?_toList, Array.getElem?_modify]
    split
    · cases es[i]? <;> rfl
    · rfl
  have hoth : ∀ (o : Obj) (k : Nat), k ≠ b → (setBlock w b o).heap[k]? = w.heap[k]? := fun o k hk => by simp [setBlock, Ne.symm hk]
  refine ⟨setBlock w b (.map (es.modify j fun e => { e with key := .int .i64 l[j].1, val := u }) clock), ?_, ⟨_, clock, since, c0, sn, (heap_set h1).1, ?_, stamped_modify hs j _ (fun _ _ => rfl) (fun e' _ he' => ?_), by rw [hborn, h4], (hoth _ r hne).trans h5, ?_, h7, h8, h9⟩, grown_setBlock h1 _⟩
  · simp [Instr.mapUpdate, run_underlying ht, Go.MapKept.run_getObj_map h1, hc, run_findKey hk hf, he, hek, run_keyThatStays hkey, Go.MapKept.run_setObj_map _ h1, Result.andThen, setBlock]
  · apply List.ext_getElem?
    intro i
    simp only [List.getElem?_map, Array.getElem?_toList, Array.getElem?_modify, List.getElem?_set]
    have hi' := hat i
    by_cases c : j = i
    · subst c
      rw [he, if_pos rfl, if_pos rfl, if_pos hj]
      simp
    · rw [if_neg c, if_neg c]
      exact hi'
  · rw [he] at he'
    injection he' with he'
    rw [← he', hek]
  · intro x hx
    have hxb : x.born ∈ (es.modify j fun e => { e with key := .int .i64 l[j].1, val := u }).toList.map (·.born) := List.mem_map.2 ⟨x, hx, rfl⟩
    rw [hborn] at hxb
    obtain ⟨y, hy, e⟩ := List.mem_map.1 hxb
    rw [← e]
    exact h6 y hy
end
/-! ### in the walk -/
section
variable {P : Program} (w : World) {ops : Array Oper} {rest : List Oper} {o : Oper} {a : Act} {Q : Exit → Act → World → Prop}
theorem wpList_im_range (hg : o.guard = none) (m : Operand) (t kt et : TypeId) (hop : o.op = Op.range t m) (ht : P.underlying t = some (.map kt et)) (b : Nat) (l : List (Int × Value)) (hm : a.eval m = .map (some b)) (h : IMap w b l)
    (hK : ∀ bn o', RIt (w.alloc o') w.heap.size b l bn [] → wpList P ops Q rest (a.put o.dst (.pointer (some ⟨w.heap.size, 0, none⟩))) (w.alloc o')) : wpList P ops Q (o :: rest) a w := by
  refine wpList_plain hg fun K' hK' => ?_
  obtain ⟨bn, o', hrun, r1⟩ := h.range ht
  unfold Oper.wp
  simp [execOp, hop, hm, hrun, Result.andThen]
  exact hK' _ _ (hK bn o' r1)
theorem wpList_im_next (hg : o.guard = none) (it : Operand) (hop : o.op = Op.next it false) (r b : Nat) (l : List (Int × Value)) (bn seen : List Nat) (hit : a.eval it = .pointer (some ⟨r, 0, none⟩)) (h : RIt w r b l bn seen)
    (hDone : (∀ x ∈ bn, x ∈ seen) → wpList P ops Q rest (a.put o.dst (.tuple #[.bool false])) w)
    (hMore : ∀ (j : Nat) (hj : j < l.length) (hb : j < bn.length) (w' : World), bn[j] ∉ seen → RIt w' r b l bn (seen ++ [bn[j]]) → (Instr.entry (.pointer (some ⟨r, 0, none⟩))).run P w' = .ok (.tuple #[.int .i64 l[j].1, l[j].2]) w' → w.grownBy w' (some r) → w'.heap.size = w.heap.size →
      wpList P ops Q rest (a.put o.dst (.tuple #[.bool true, .int .i64 l[j].1, l[j].2])) w') : wpList P ops Q (o :: rest) a w := by
  refine wpList_plain hg fun K' hK' => ?_
  unfold Oper.wp
  rcases h.next (P := P) o.type with ⟨hall, hrun⟩ | ⟨j, hj, hb, w', hns, hrun, r1, hen, hgr, hsz⟩
  · simp [execOp, hop, hit, hrun, Result.andThen]
    exact hK' _ _ (hDone hall)
  · simp [execOp, hop, hit, hrun, Result.andThen]
    exact hK' _ _ (hMore j hj hb w' hns r1 hen hgr hsz)
end
/-- How many have not been out. -/
def unseen (bn seen : List Nat) : Nat := (bn.filter fun x => decide (x ∉ seen)).length
theorem unseen_lt {bn seen : List Nat} {x : Nat} (hx : x ∈ bn) (hn : x ∉ seen) : unseen bn (seen ++ [x]) < unseen bn seen := by
  unfold unseen
  induction bn with
  | nil => cases hx
  | cons y bn ih =>
    have hle : (bn.filter fun z => decide (z ∉ seen ++ [x])).length ≤ (bn.filter fun z => decide (z ∉ seen)).length := by
      clear ih hx
      induction bn with
      | nil => exact Nat.le_refl _
      | cons z bn ih =>
        by_cases c : z ∉ seen ++ [x]
        · rw [List.filter_cons_of_pos (by simpa using c), List.filter_cons_of_pos (by simp only [decide_eq_true_eq]; exact fun h => c (List.mem_append_left _ h))]
          simpa using ih
        · rw [List.filter_cons_of_neg (by simpa using c)]
          by_cases d : z ∉ seen
          · rw [List.filter_cons_of_pos (by simpa using d)]
            exact Nat.le_succ_of_le ih
          · rw [List.filter_cons_of_neg (by simpa using d)]
            exact ih
    by_cases e : y = x
    · subst e
      rw [List.filter_cons_of_neg (by simp), List.filter_cons_of_pos (by simpa using hn)]
      exact Nat.lt_succ_of_le hle
    · have ih := ih ((List.mem_cons.1 hx).resolve_left (fun h => e h.symm))
      by_cases d : y ∉ seen
      · rw [List.filter_cons_of_pos (by simp; exact ⟨d, e⟩), List.filter_cons_of_pos (by simpa using d)]
        simpa using ih
      · rw [List.filter_cons_of_neg (by simp at d ⊢; exact fun h => absurd d h), List.filter_cons_of_neg (by simpa using d)]
        exact ih
end Go.Proofs.Ytafjbebbmfihaaa
