/- What comes to each block, who can be come to, and the looks of few, in plain Lean; no condition. -/
import Derived.Test.YtafjbebbmfihaaaGPure
import Derived.Test.YtafjbebbmfihaaaPx1
namespace Go.Proofs.Ytafjbebbmfihaaa.P
open Go.RowKit Go.Proofs.YtafjbebbmfihaaaW.PrintWords Go.Proofs.YtafjbebbmfihaaaW.PrintLast Go.Proofs.YtafjbebbmfihaaaW.PrintMore
set_option linter.unusedSectionVars false
set_option linter.unusedVariables false
set_option linter.unusedSimpArgs false

/-! ### how many, and sums -/
def cnt (p : Nat → Prop) [DecidablePred p] : Nat → Nat
  | 0 => 0
  | N + 1 => cnt p N + if p N then 1 else 0
def sm (f : Nat → Nat) : Nat → Nat
  | 0 => 0
  | N + 1 => sm f N + f N
theorem cnt_congr {p q : Nat → Prop} [DecidablePred p] [DecidablePred q] : ∀ N, (∀ j, j < N → (p j ↔ q j)) → cnt p N = cnt q N
  | 0, _ => rfl
  | N + 1, h => by
    simp only [cnt]
    rw [cnt_congr N (fun j hj => h j (by omega))]
    by_cases c : p N
    · rw [if_pos c, if_pos ((h N (by omega)).1 c)]
    · rw [if_neg c, if_neg (fun d => c ((h N (by omega)).2 d))]
theorem sm_congr {f g : Nat → Nat} : ∀ N, (∀ j, j < N → f j = g j) → sm f N = sm g N
  | 0, _ => rfl
  | N + 1, h => by
    simp only [sm]
    rw [sm_congr N (fun j hj => h j (by omega)), h N (by omega)]
theorem sm_add (f g : Nat → Nat) : ∀ N, sm (fun j => f j + g j) N = sm f N + sm g N
  | 0 => rfl
  | N + 1 => by
    simp only [sm]
    rw [sm_add f g N]
    omega
theorem sm_ite (p : Nat → Prop) [DecidablePred p] : ∀ N, sm (fun j => if p j then 1 else 0) N = cnt p N
  | 0 => rfl
  | N + 1 => by
    simp only [sm, cnt]
    rw [sm_ite p N]
theorem sm_zero : ∀ N, sm (fun _ => 0) N = 0
  | 0 => rfl
  | N + 1 => by
    simp only [sm]
    rw [sm_zero N]
theorem sm_swap (R : Nat → Nat → Prop) [∀ i, DecidablePred (R i)] (N : Nat) : ∀ M, sm (fun i => cnt (R i) N) M = sm (fun j => cnt (fun i => R i j) M) N
  | 0 => by simp only [cnt, sm]; rw [sm_zero]
  | M + 1 => by
    simp only [sm, cnt]
    rw [sm_swap R N M, sm_add (fun j => cnt (fun i => R i j) M) (fun j => if R M j then 1 else 0) N, sm_ite]
theorem sm_le {f : Nat → Nat} {b : Nat} (h : ∀ j, f j ≤ b) : ∀ N, sm f N ≤ N * b
  | 0 => by simp [sm]
  | N + 1 => by
    have := sm_le h N
    have := h N
    simp only [sm, Nat.succ_mul]
    omega
theorem cnt_le (p : Nat → Prop) [DecidablePred p] : ∀ N, cnt p N ≤ N
  | 0 => Nat.le_refl _
  | N + 1 => by
    have := cnt_le p N
    simp only [cnt]
    split <;> omega
theorem cnt_one (p q : Nat → Prop) [DecidablePred p] [DecidablePred q] (y : Nat) (hy : ¬ p y) (h : ∀ j, q j ↔ p j ∨ j = y) : ∀ N, cnt q N = cnt p N + if y < N then 1 else 0
  | 0 => rfl
  | N + 1 => by
    have ih := cnt_one p q y hy h N
    have hN := h N
    simp only [cnt]
    rw [ih]
    by_cases e : N = y
    · subst e
      rw [if_neg (Nat.lt_irrefl _), if_pos (hN.2 (.inr rfl)), if_neg hy, if_pos (Nat.lt_succ_self _)]
    · by_cases c : p N
      · rw [if_pos c, if_pos (hN.2 (.inl c))]
        by_cases d : y < N
        · rw [if_pos d, if_pos (by omega)]
        · rw [if_neg d, if_neg (by omega)]
      · rw [if_neg c, if_neg (fun d => (hN.1 d).elim c e)]
        by_cases d : y < N
        · rw [if_pos d, if_pos (by omega)]
        · rw [if_neg d, if_neg (by omega)]

/-! ### graph.From -/
/-- Which of the first i blocks come to j, rising. -/
def inTo (n : Int) (ts : List (List Int)) (i : Nat) (j : Nat) : List Int := ((List.range i).filter (fun (a : Nat) => decide ((j : Int) ∈ Wy n ts a))).map (fun (a : Nat) => (a : Int))
def frm (n : Int) (ts : List (List Int)) (N i : Nat) : List (List Int) := (List.range N).map (inTo n ts i)
theorem rd_map {f : Nat → List Int} {N j : Nat} (h : j < N) : rd_L1 ((List.range N).map f) (j : Int) = f j := by
  simp [rd_L1, List.getD, h]
theorem rd_get {l : List (List Int)} {j : Nat} (h : j < l.length) : rd_L1 l (j : Int) = l[j] := by
  simp [rd_L1, List.getD, h]
theorem inTo_succ (n : Int) (ts : List (List Int)) (i j : Nat) : inTo n ts (i + 1) j = inTo n ts i j ++ if (j : Int) ∈ Wy n ts i then [(i : Int)] else [] := by
  unfold inTo
  rw [List.range_succ, List.filter_append, List.map_append]
  by_cases c : (j : Int) ∈ Wy n ts i
  · rw [if_pos c, List.filter_cons_of_pos (by simpa using c)]
    simp
  · rw [if_neg c, List.filter_cons_of_neg (by simpa using c)]
    simp
theorem inTo_length (n : Int) (ts : List (List Int)) : ∀ (i j : Nat), (inTo n ts i j).length = cnt (fun a => (j : Int) ∈ Wy n ts a) i
  | 0, j => rfl
  | i + 1, j => by
    rw [inTo_succ, List.length_append, inTo_length n ts i j]
    simp only [cnt]
    split <;> rfl
theorem inTo_mem {n : Int} {ts : List (List Int)} {i j : Nat} {x : Int} : x ∈ inTo n ts i j ↔ 0 ≤ x ∧ x < i ∧ (j : Int) ∈ Wy n ts x := by
  unfold inTo
  rw [List.mem_map]
  constructor
  · rintro ⟨a, ha, rfl⟩
    have := List.mem_filter.1 ha
    exact ⟨by omega, by have := List.mem_range.1 this.1; omega, by simpa using this.2⟩
  · rintro ⟨h0, h1, h2⟩
    refine ⟨x.toNat, List.mem_filter.2 ⟨List.mem_range.2 (by omega), ?_⟩, Int.toNat_of_nonneg h0⟩
    rw [Int.toNat_of_nonneg h0]
    simpa using h2
theorem inTo_rising (n : Int) (ts : List (List Int)) (j : Nat) : ∀ i : Nat, List.Pairwise (fun a b : Int => a < b) (inTo n ts i j)
  | 0 => List.Pairwise.nil
  | i + 1 => by
    rw [inTo_succ]
    refine List.pairwise_append.2 ⟨inTo_rising n ts j i, ?_, ?_⟩
    · split
      · exact List.pairwise_singleton _ _
      · exact List.Pairwise.nil
    · intro a ha b hb
      have := (inTo_mem.1 ha).2.1
      split at hb
      · rw [List.mem_singleton.1 hb]; omega
      · cases hb
theorem row_tot (i : Int) (N : Nat) : ∀ (ws seen : List Int) (l : List (List Int)), l.length = N → (∀ x ∈ ws, 0 ≤ x ∧ x < N) → (∀ j : Nat, (j : Int) ∉ seen → (rd_L1 l (j : Int)).length < 1000000) →
    graph_From.row i ws seen l = some ((List.range N).map fun (j : Nat) => rd_L1 l (j : Int) ++ if (j : Int) ∈ ws ∧ (j : Int) ∉ seen then [i] else [])
  | [], seen, l, hl, hw, hs => by
    simp only [graph_From.row, Option.some.injEq]
    apply List.ext_getElem
    · simp [hl]
    · intro j h1 h2
      simp [rd_get h1]
  | x :: ws, seen, l, hl, hw, hs => by
    have hx := hw x List.mem_cons_self
    simp only [graph_From.row]
    by_cases c : x ∈ seen
    · rw [if_pos c, row_tot i N ws seen l hl (fun y hy => hw y (List.mem_cons_of_mem _ hy)) hs]
      congr 1
      apply List.map_congr_left
      intro j _
      congr 1
      by_cases d : (j : Int) ∈ ws ∧ (j : Int) ∉ seen
      · rw [if_pos d, if_pos ⟨List.mem_cons_of_mem _ d.1, d.2⟩]
      · rw [if_neg d, if_neg]
        rintro ⟨e1, e2⟩
        rcases List.mem_cons.1 e1 with e | e
        · exact e2 (e ▸ c)
        · exact d ⟨e, e2⟩
    · have hxn : ((x.toNat : Nat) : Int) = x := Int.toNat_of_nonneg hx.1
      rw [if_neg c, if_pos ⟨hx.1, by rw [hl]; exact hx.2, by have := hs x.toNat (by rw [hxn]; exact c); rwa [hxn] at this⟩]
      have hrd : ∀ j : Nat, j < N → rd_L1 (l.set x.toNat (rd_L1 l x ++ [i])) (j : Int) = if (j : Int) = x then rd_L1 l x ++ [i] else rd_L1 l (j : Int) := by
        intro j hj
        rw [rd_get (by rw [List.length_set]; omega), List.getElem_set]
        by_cases e : (j : Int) = x
        · rw [if_pos e, if_pos (by omega)]
        · rw [if_neg e, if_neg (by omega), rd_get (by omega)]
      rw [row_tot i N ws (seen ++ [x]) (l.set x.toNat (rd_L1 l x ++ [i])) (by rw [List.length_set, hl]) (fun y hy => hw y (List.mem_cons_of_mem _ hy)) ?_]
      · congr 1
        apply List.map_congr_left
        intro j hj
        rw [hrd j (List.mem_range.1 hj)]
        by_cases e : (j : Int) = x
        · rw [if_pos e, if_neg (fun h => h.2 (by rw [e]; simp)), if_pos ⟨by rw [e]; simp, by rw [e]; exact c⟩, List.append_nil, e]
        · rw [if_neg e]
          congr 1
          by_cases d : (j : Int) ∈ ws ∧ (j : Int) ∉ seen
          · rw [if_pos (show (j : Int) ∈ x :: ws ∧ (j : Int) ∉ seen from ⟨List.mem_cons_of_mem _ d.1, d.2⟩), if_pos ⟨d.1, fun h => (List.mem_append.1 h).elim d.2 (fun h => e (List.mem_singleton.1 h))⟩]
          · rw [if_neg (show ¬ ((j : Int) ∈ x :: ws ∧ (j : Int) ∉ seen) from fun h => (List.mem_cons.1 h.1).elim e (fun h1 => d ⟨h1, h.2⟩)), if_neg (fun h => d ⟨h.1, fun h1 => h.2 (List.mem_append_left _ h1)⟩)]
      · intro j hj
        have hne : ¬ (j : Int) = x := fun e => hj (by rw [e]; simp)
        have hjs : (j : Int) ∉ seen := fun h => hj (List.mem_append_left _ h)
        by_cases hjN : j < N
        · rw [hrd j hjN, if_neg hne]
          exact hs j hjs
        · have : rd_L1 (l.set x.toNat (rd_L1 l x ++ [i])) (j : Int) = [] := by
            simp [rd_L1, List.getD, hl, hjN]
          rw [this]
          decide
section
variable {n : Int} {ts : List (List Int)} {N : Nat}
theorem from_lo (hn : n = N) (hN : N < 1000000) (hts : ∀ i, (rd_L1 ts i).length < 1000000) : ∀ (d i : Nat), d = N - i → i ≤ N → Tot (fun k => graph_From.lo k n ts (i : Int) (frm n ts N i)) (frm n ts N N)
  | 0, i, hd, hi => by
    have e : i = N := by omega
    subst e
    refine (Tot.pure _).step (fun k => ?_)
    simp only [graph_From.lo]
    rw [if_neg (by omega)]
  | d + 1, i, hd, hi => by
    have ih := from_lo hn hN hts d (i + 1) (by omega) (by omega)
    have hw := ways_tot n ts (i : Int) (by omega) (hts _)
    have hwl := Wy_length n ts (i : Int)
    have hrow : graph_From.row (i : Int) (Wy n ts i) [] (frm n ts N i) = some (frm n ts N (i + 1)) := by
      rw [row_tot (i : Int) N (Wy n ts i) [] (frm n ts N i) (by simp [frm]) (fun x hx => by have := Wy_mem hx; omega) ?_]
      · congr 1
        apply List.map_congr_left
        intro j hj
        have hj' := List.mem_range.1 hj
        unfold frm
        rw [rd_map hj', inTo_succ]
        congr 1
        by_cases c : (j : Int) ∈ Wy n ts i
        · rw [if_pos c, if_pos ⟨c, by simp⟩]
        · rw [if_neg c, if_neg (fun h => c h.1)]
      · intro j _
        by_cases hj : j < N
        · unfold frm
          rw [rd_map hj, inTo_length]
          have := cnt_le (fun a => (j : Int) ∈ Wy n ts a) i
          omega
        · have : rd_L1 (frm n ts N i) (j : Int) = [] := by
            simp [rd_L1, List.getD, frm, hj]
          rw [this]
          decide
    have ih' : Tot (fun k => graph_From.lo k n ts ((i : Int) + 1) (frm n ts N (i + 1))) (frm n ts N N) := by
      have e : ((i + 1 : Nat) : Int) = (i : Int) + 1 := by omega
      rw [← e]
      exact ih
    have h2 : Tot (fun k => (if (Wy n ts i).length < 1000000 then graph_From.row (i : Int) (Wy n ts i) [] (frm n ts N i) else none).bind fun l => graph_From.lo k n ts ((i : Int) + 1) l) (frm n ts N N) := by
      refine ih'.congr (fun k => ?_)
      rw [if_pos (by have := hts (i : Int); omega), hrow]
      rfl
    refine (Tot.bind (b := fun k (ws : List Int) => (if ws.length < 1000000 then graph_From.row (i : Int) ws [] (frm n ts N i) else none).bind fun l => graph_From.lo k n ts ((i : Int) + 1) l) hw h2).step (fun k => ?_)
    simp only [graph_From.lo]
    rw [if_pos (by omega)]
theorem from_tot (hn : n = N) (hN : N < 1000000) (hts : ∀ i, (rd_L1 ts i).length < 1000000) : Tot (fun k => graph_From.f k n ts) (frm n ts N N) := by
  have h := from_lo hn hN hts N 0 (by omega) (Nat.zero_le _)
  refine h.congr (fun k => ?_)
  unfold graph_From.f
  rw [if_pos (by omega)]
  have e : frm n ts N 0 = List.replicate n.toNat [] := by
    apply List.ext_getElem
    · simp [frm, hn]
    · intro j h1 h2
      simp [frm, inTo]
  rw [e]
  rfl

/-! ### graph.Reach, graph.Order -/
def rchd (t : List Int) (N : Nat) : List Bool := (List.range N).map fun (i : Nat) => decide ((i : Int) ∈ t)
theorem rchd_rd {t : List Int} {N j : Nat} (h : j < N) : rdOf false (rchd t N) (j : Int) = decide ((j : Int) ∈ t) := by
  simp [rdOf, rchd, List.getD, h]
theorem rchd_length (t : List Int) (N : Nat) : (rchd t N).length = N := by simp [rchd]
theorem reach_tot (hn : n = N) (hN : N < 1000000) {t o : List Int} (h : Tot (fun k => graph_walk.f k n ts) (t, o)) : Tot (fun k => graph_Reach.f k n ts) (rchd t N) := by
  have := Tot.bind (b := fun _ st => some ((List.range n.toNat).map fun (i : Nat) => decide ((i : Int) ∈ st.1))) h (Tot.pure _)
  rw [show n.toNat = N by omega] at this
  refine this.congr (fun k => ?_)
  unfold graph_Reach.f
  rw [if_pos (by omega)]
  rw [show n.toNat = N by omega]
theorem order_tot {t o : List Int} (ho : o.length < 1000000) (h : Tot (fun k => graph_walk.f k n ts) (t, o)) : Tot (fun k => graph_Order.f k n ts) o.reverse := by
  have := Tot.bind (b := fun _ st => if st.2.length < 1000000 then some st.2.reverse else none) h (Tot.pos (c := o.length < 1000000) (g := fun _ => none) ho (Tot.pure _))
  exact this.congr (fun k => rfl)
end

/-! ### few -/
theorem few_l0 (ts : List (List Int)) (hl : ∀ i, (rd_L1 ts i).length < 4611686018427387904) (hl0 : ts.length < 4611686018427387904) : ∀ (d i s : Nat), d = ts.length - i → i ≤ ts.length → ts.length ≤ s → (∀ j : Nat, j < i → (rd_L1 ts (j : Int)).length ≤ s) → s < 9223372036854775808 →
    ∃ b, Tot (fun k => ferrulelaw11_few.l0 k ts (s : Int) (i : Int)) b ∧ (b = true → ts.length < 200 ∧ ∀ j : Nat, (rd_L1 ts (j : Int)).length < 200)
  | 0, i, s, hd, hi, hs, hr, hs2 => by
    refine ⟨decide ((s : Int) < 200), (Tot.pure _).step (fun k => ?_), fun h => ?_⟩
    · rw [ferrulelaw11_few.l0, if_neg (by omega)]
    · have h := of_decide_eq_true h
      refine ⟨by omega, fun j => ?_⟩
      by_cases c : j < i
      · have := hr j c; omega
      · have : rd_L1 ts (j : Int) = [] := by
          have : ¬ j < ts.length := by omega
          simp [rd_L1, List.getD, this]
        rw [this]
        decide
  | d + 1, i, s, hd, hi, hs, hr, hs2 => by
    by_cases c : (s : Int) < 200
    · have hli := hl (i : Int)
      obtain ⟨b, h1, h2⟩ := few_l0 ts hl hl0 d (i + 1) (s + (rd_L1 ts (i : Int)).length) (by omega) (by omega) (by omega) (fun j hj => by
        by_cases e : j = i
        · subst e; omega
        · have := hr j (by omega); omega) (by omega)
      refine ⟨b, h1.step (fun k => ?_), h2⟩
      rw [ferrulelaw11_few.l0, if_pos (by omega), if_pos c, if_pos (by omega), w64 (by omega) (by omega), w64 (by omega) (by omega)]
      congr 1 <;> omega
    · refine ⟨false, (Tot.pure _).step (fun k => ?_), fun h => by cases h⟩
      rw [ferrulelaw11_few.l0, if_pos (by omega), if_neg c, decide_eq_false c]
theorem rd_neg {ts : List (List Int)} {i : Int} (h : i < 0) : rd_L1 ts i = rd_L1 ts 0 := by
  unfold rd_L1
  rw [show i.toNat = 0 by omega]
  rfl
theorem few_tot (ts : List (List Int)) (hl : ∀ i, (rd_L1 ts i).length < 4611686018427387904) (hl0 : ts.length < 4611686018427387904) :
    ∃ b, Tot (fun k => ferrulelaw11_few.f k ts) b ∧ (b = true → ts.length < 200 ∧ ∀ j : Int, (rd_L1 ts j).length < 200) := by
  obtain ⟨b, h1, h2⟩ := few_l0 ts hl hl0 _ 0 ts.length rfl (Nat.zero_le _) (Nat.le_refl _) (fun j hj => by omega) (by omega)
  refine ⟨b, h1.congr (fun k => rfl), fun h => ⟨(h2 h).1, fun j => ?_⟩⟩
  by_cases c : 0 ≤ j
  · have := (h2 h).2 j.toNat
    rwa [Int.toNat_of_nonneg c] at this
  · rw [rd_neg (by omega)]
    exact (h2 h).2 0
end Go.Proofs.Ytafjbebbmfihaaa.P
