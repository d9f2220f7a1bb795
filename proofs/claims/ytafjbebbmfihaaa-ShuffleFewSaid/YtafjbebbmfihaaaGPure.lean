/- The walk through blocks, what comes to what, and the order, in plain Lean; no condition. -/
import Derived.Test.YtafjbebbmfihaaaHDefs
namespace Go.Proofs.Ytafjbebbmfihaaa.P
open Go.RowKit Go.Proofs.YtafjbebbmfihaaaW.PrintWords Go.Proofs.YtafjbebbmfihaaaW.PrintLast Go.Proofs.YtafjbebbmfihaaaW.PrintMore
set_option linter.unusedSectionVars false
set_option linter.unusedVariables false
set_option linter.unusedSimpArgs false

/-! ### from some number of rounds on -/
def Tot {α : Type} (f : Nat → Option α) (r : α) : Prop := ∃ K, ∀ k, K ≤ k → f k = some r
theorem Tot.step {α : Type} {f g : Nat → Option α} {r : α} (hg : Tot g r) (h : ∀ k, f (k + 1) = g k) : Tot f r := by
  obtain ⟨K, hK⟩ := hg
  refine ⟨K + 1, fun k hk => ?_⟩
  obtain ⟨j, rfl⟩ : ∃ j, k = j + 1 := ⟨k - 1, by omega⟩
  show f (j + 1) = some r
  rw [h]
  exact hK j (by omega)
theorem Tot.congr {α : Type} {f g : Nat → Option α} {r : α} (hg : Tot g r) (h : ∀ k, f k = g k) : Tot f r := by
  obtain ⟨K, hK⟩ := hg
  exact ⟨K, fun k hk => by rw [h]; exact hK k hk⟩
theorem Tot.pure {α : Type} (r : α) : Tot (fun _ => some r) r := ⟨0, fun _ _ => rfl⟩
theorem Tot.bind {α β : Type} {a : Nat → Option α} {b : Nat → α → Option β} {x : α} {r : β} (ha : Tot a x) (hb : Tot (fun k => b k x) r) : Tot (fun k => (a k).bind (b k)) r := by
  obtain ⟨K, hK⟩ := ha
  obtain ⟨L, hL⟩ := hb
  refine ⟨max K L, fun k hk => ?_⟩
  show (a k).bind (b k) = some r
  rw [hK k (by omega)]
  exact hL k (by omega)
theorem Tot.get {α : Type} {f : Nat → Option α} {r : α} (h : Tot f r) : ∃ k, f k = some r := ⟨h.choose, h.choose_spec _ (Nat.le_refl _)⟩
theorem Tot.uniq {α : Type} {f : Nat → Option α} {r q : α} (h : Tot f r) (h' : Tot f q) : r = q := by
  obtain ⟨K, hK⟩ := h
  obtain ⟨L, hL⟩ := h'
  have a := hK (max K L) (by omega)
  rw [hL (max K L) (by omega)] at a
  exact (Option.some.inj a).symm
theorem Tot.pos {α : Type} {c : Prop} [Decidable c] {f g : Nat → Option α} {r : α} (hc : c) (h : Tot f r) : Tot (fun k => if c then f k else g k) r := h.congr (fun k => if_pos hc)
theorem Tot.neg {α : Type} {c : Prop} [Decidable c] {f g : Nat → Option α} {r : α} (hc : ¬ c) (h : Tot g r) : Tot (fun k => if c then f k else g k) r := h.congr (fun k => if_neg hc)
theorem w64 {n : Int} (h0 : -9223372036854775808 ≤ n) (h1 : n ≤ 9223372036854775807) : wrap64 n = n := by unfold wrap64; omega

/-! ### where a block goes -/
def Wy (n : Int) (ts : List (List Int)) (i : Int) : List Int := if i < ts.length then (rd_L1 ts i).filter (fun x => decide (0 ≤ x) && decide (x < n)) else []
theorem Wy_mem {n : Int} {ts : List (List Int)} {i x : Int} (h : x ∈ Wy n ts i) : 0 ≤ x ∧ x < n := by
  unfold Wy at h
  split at h
  · have := (List.mem_filter.1 h).2
    simpa using this
  · cases h
theorem Wy_length (n : Int) (ts : List (List Int)) (i : Int) : (Wy n ts i).length ≤ (rd_L1 ts i).length := by
  unfold Wy
  split
  · exact List.length_filter_le _ _
  · exact Nat.zero_le _
theorem ways_l0 (n : Int) (L : List Int) (hL : L.length < 1000000) : ∀ (d j : Nat) (acc : List Int), d = L.length - j → j ≤ L.length → acc.length ≤ j →
    Tot (fun k => graph_ways.l0 k n acc L (L.length : Int) (j : Int)) (acc ++ (L.drop j).filter (fun x => decide (0 ≤ x) && decide (x < n)))
  | 0, j, acc, hd, hj, ha => by
    have e : L.drop j = [] := List.drop_eq_nil_of_le (by omega)
    rw [e]
    refine (Tot.pure _).step (fun k => ?_)
    unfold graph_ways.l0
    rw [if_neg (by omega)]
    simp
  | d + 1, j, acc, hd, hj, ha => by
    have hlt : j < L.length := by omega
    have hw : wrap64 ((j : Int) + 1) = ((j + 1 : Nat) : Int) := by rw [w64 (by omega) (by omega)]; omega
    have hr : rd L (j : Int) = L[j] := by simp [rd, List.getD, hlt]
    by_cases c0 : rd L (j : Int) ≥ 0
    · by_cases c1 : rd L (j : Int) < n
      · have ih := ways_l0 n L hL d (j + 1) (acc ++ [rd L (j : Int)]) (by omega) (by omega) (by simp; omega)
        have e : (acc ++ [rd L (j : Int)]) ++ (L.drop (j + 1)).filter (fun x => decide (0 ≤ x) && decide (x < n)) = acc ++ (L.drop j).filter (fun x => decide (0 ≤ x) && decide (x < n)) := by
          rw [List.drop_eq_getElem_cons hlt, List.filter_cons_of_pos (by rw [← hr]; simp; exact ⟨c0, c1⟩), ← hr]
          simp
        rw [e] at ih
        refine ih.step (fun k => ?_)
        rw [graph_ways.l0, if_pos (by omega), if_pos (by omega), if_pos (by omega), if_pos c0, if_pos c1, if_pos (by omega), hw]
      · have ih := ways_l0 n L hL d (j + 1) acc (by omega) (by omega) (by omega)
        have e : acc ++ (L.drop (j + 1)).filter (fun x => decide (0 ≤ x) && decide (x < n)) = acc ++ (L.drop j).filter (fun x => decide (0 ≤ x) && decide (x < n)) := by
          rw [List.drop_eq_getElem_cons hlt, List.filter_cons_of_neg (by rw [← hr]; simp; omega)]
        rw [e] at ih
        refine ih.step (fun k => ?_)
        rw [graph_ways.l0, if_pos (by omega), if_pos (by omega), if_pos (by omega), if_pos c0, if_neg c1, hw]
    · have ih := ways_l0 n L hL d (j + 1) acc (by omega) (by omega) (by omega)
      have e : acc ++ (L.drop (j + 1)).filter (fun x => decide (0 ≤ x) && decide (x < n)) = acc ++ (L.drop j).filter (fun x => decide (0 ≤ x) && decide (x < n)) := by
        rw [List.drop_eq_getElem_cons hlt, List.filter_cons_of_neg (by rw [← hr]; simp; omega)]
      rw [e] at ih
      refine ih.step (fun k => ?_)
      rw [graph_ways.l0, if_pos (by omega), if_pos (by omega), if_pos (by omega), if_neg c0, hw]
theorem ways_tot (n : Int) (ts : List (List Int)) (i : Int) (hi : 0 ≤ i) (hL : (rd_L1 ts i).length < 1000000) : Tot (fun k => graph_ways.f k n ts i) (Wy n ts i) := by
  unfold Wy
  by_cases c : i < ts.length
  · rw [if_pos c]
    have h := ways_l0 n (rd_L1 ts i) hL _ 0 [] rfl (Nat.zero_le _) (Nat.zero_le _)
    refine h.congr (fun k => ?_)
    unfold graph_ways.f
    rw [if_pos c, if_pos hi]
    rfl
  · rw [if_neg c]
    refine (Tot.pure _).congr (fun k => ?_)
    unfold graph_ways.f
    rw [if_neg c]

/-! ### how many are left -/
def un (N : Nat) (s : List Int) : Nat := ((List.range N).filter (fun (x : Nat) => decide (¬ ((x : Int) ∈ s)))).length
theorem filter_le {p q : Nat → Bool} (h : ∀ x, p x = true → q x = true) : ∀ l : List Nat, (l.filter p).length ≤ (l.filter q).length
  | [] => Nat.le_refl _
  | a :: l => by
    have ih := filter_le h l
    by_cases c : p a = true
    · rw [List.filter_cons_of_pos c, List.filter_cons_of_pos (h a c)]
      simpa using ih
    · rw [List.filter_cons_of_neg c]
      by_cases d : q a = true
      · rw [List.filter_cons_of_pos d]
        exact Nat.le_succ_of_le ih
      · rw [List.filter_cons_of_neg d]
        exact ih
theorem filter_lt {p q : Nat → Bool} (h : ∀ x, p x = true → q x = true) {y : Nat} (hq : q y = true) (hp : ¬ p y = true) : ∀ l : List Nat, y ∈ l → (l.filter p).length < (l.filter q).length
  | [], hy => by cases hy
  | a :: l, hy => by
    have ih := filter_le h l
    rcases List.mem_cons.1 hy with e | hy
    · subst e
      rw [List.filter_cons_of_neg hp, List.filter_cons_of_pos hq]
      exact Nat.lt_succ_of_le ih
    · have ih := filter_lt h hq hp l hy
      by_cases c : p a = true
      · rw [List.filter_cons_of_pos c, List.filter_cons_of_pos (h a c)]
        simpa using ih
      · rw [List.filter_cons_of_neg c]
        by_cases d : q a = true
        · rw [List.filter_cons_of_pos d]
          exact Nat.lt_succ_of_lt ih
        · rw [List.filter_cons_of_neg d]
          exact ih
theorem un_lt {N : Nat} {s s' : List Int} (hs : ∀ x, x ∈ s → x ∈ s') {y : Int} (h0 : 0 ≤ y) (hN : y < N) (hy : y ∉ s) (hy' : y ∈ s') : un N s' < un N s := by
  unfold un
  refine filter_lt (y := y.toNat) ?_ ?_ ?_ _ (List.mem_range.2 (by omega))
  · intro x hx
    simp only [decide_eq_true_eq] at hx ⊢
    exact fun h => hx (hs _ h)
  · simp only [decide_eq_true_eq]
    rw [Int.toNat_of_nonneg h0]
    exact hy
  · simp only [decide_eq_true_eq]
    rw [Int.toNat_of_nonneg h0]
    exact fun h => h hy'
theorem nodup_un {N : Nat} : ∀ s : List Int, s.Nodup → (∀ x ∈ s, 0 ≤ x ∧ x < N) → s.length + un N s ≤ N
  | [], _, _ => by
    have := List.length_filter_le (fun (x : Nat) => decide (¬ ((x : Int) ∈ ([] : List Int)))) (List.range N)
    rw [List.length_range] at this
    unfold un
    simp only [List.length_nil]
    omega
  | a :: s, hd, hr => by
    have ih := nodup_un s (List.nodup_cons.1 hd).2 (fun x hx => hr x (List.mem_cons_of_mem _ hx))
    have ha := hr a List.mem_cons_self
    have := un_lt (N := N) (s := s) (s' := a :: s) (fun x hx => List.mem_cons_of_mem _ hx) ha.1 ha.2 (List.nodup_cons.1 hd).1 List.mem_cons_self
    simp only [List.length_cons]
    omega
theorem nodup_le {N : Nat} (s : List Int) (h : s.Nodup) (hr : ∀ x ∈ s, 0 ≤ x ∧ x < N) : s.length ≤ N := by
  have := nodup_un s h hr
  omega

/-! ### the walk -/
/-- x stands ahead of p. -/
def Before (l : List Int) (x p : Int) : Prop := ∃ l1 l2, l = l1 ++ x :: l2 ∧ p ∈ l2
theorem Before.right {l : List Int} {x p : Int} (h : Before l x p) (m : List Int) : Before (l ++ m) x p := by
  obtain ⟨l1, l2, rfl, hp⟩ := h
  exact ⟨l1, l2 ++ m, by simp, List.mem_append_left _ hp⟩
theorem Before.left {l : List Int} {x p : Int} (h : Before l x p) (m : List Int) : Before (m ++ l) x p := by
  obtain ⟨l1, l2, rfl, hp⟩ := h
  exact ⟨m ++ l1, l2, by simp, hp⟩
theorem Before.across {l m : List Int} {x p : Int} (hx : x ∈ l) (hp : p ∈ m) : Before (l ++ m) x p := by
  obtain ⟨l1, l2, rfl⟩ := List.append_of_mem hx
  exact ⟨l1, l2 ++ m, by simp, List.mem_append_right _ hp⟩

/-- What is new: o; the places seen by now: t, those ahead: s. -/
structure Sp (W : Int → List Int) (N : Nat) (s t o : List Int) : Prop where
  nd : t.Nodup
  rg : ∀ x ∈ t, 0 ≤ x ∧ x < N
  mem : ∀ x, x ∈ t ↔ x ∈ s ∨ x ∈ o
  dis : ∀ x ∈ o, x ∉ s
  ond : o.Nodup
  len : t.length = s.length + o.length
  shut : ∀ x ∈ o, ∀ y ∈ W x, y ∈ t

section
variable {n : Int} {ts : List (List Int)} {N : Nat}
def GoSpec (n : Int) (ts : List (List Int)) (N u : Nat) : Prop := ∀ (i : Int) (s out : List Int), un N s = u → s.Nodup → (∀ x ∈ s, 0 ≤ x ∧ x < N) → 0 ≤ i → i < N → i ∉ s → out.length ≤ s.length →
  ∃ t o, Tot (fun k => graph_walk.go k n ts i s out) (t, out ++ (o ++ [i])) ∧ Sp (Wy n ts) N s t (o ++ [i]) ∧ ∀ x ∈ o, ∃ p, x ∈ Wy n ts p ∧ Before (o ++ [i]) x p
def LoSpec (n : Int) (ts : List (List Int)) (N u : Nat) : Prop := ∀ (i : Int) (ws s out : List Int), un N s = u → s.Nodup → (∀ x ∈ s, 0 ≤ x ∧ x < N) → i ∈ s → (∀ x ∈ ws, x ∈ Wy n ts i) → out.length + 1 ≤ s.length →
  ∃ t o, Tot (fun k => graph_walk.lo k n ts i ws s out) (t, out ++ (o ++ [i])) ∧ Sp (Wy n ts) N s t o ∧ (∀ x ∈ ws, x ∈ t) ∧ ∀ x ∈ o, ∃ p, x ∈ Wy n ts p ∧ Before (o ++ [i]) x p
theorem wlo_step (hn : n = N) (hN : N < 1000000) (u : Nat) (ihg : GoSpec n ts N u) (ihl : ∀ u', u' < u → LoSpec n ts N u') : LoSpec n ts N u := by
  intro i ws
  induction ws with
  | nil =>
    intro s out hu hd hr hi hw hl
    have hs := nodup_le s hd hr
    refine ⟨s, [], (Tot.pure _).step (fun k => ?_), ⟨hd, hr, by simp, by simp, List.nodup_nil, by simp, by simp⟩, by simp, by simp⟩
    simp only [graph_walk.lo, List.nil_append]
    rw [if_pos (by omega)]
  | cons x ws ih =>
    intro s out hu hd hr hi hw hl
    by_cases c : x ∈ s
    · obtain ⟨t, o, h1, h2, h3, h4⟩ := ih s out hu hd hr hi (fun y hy => hw y (List.mem_cons_of_mem _ hy)) hl
      refine ⟨t, o, h1.step (fun k => ?_), h2, ?_, h4⟩
      · simp only [graph_walk.lo]
        rw [if_pos c]
      · intro y hy
        rcases List.mem_cons.1 hy with rfl | hy
        · exact (h2.mem y).2 (.inl c)
        · exact h3 y hy
    · have hx := Wy_mem (hw x List.mem_cons_self)
      obtain ⟨t1, o1, a1, a2, a3⟩ := ihg x s out hu hd hr hx.1 (by omega) c (by omega)
      have hxt : x ∈ t1 := (a2.mem x).2 (.inr (by simp))
      have hut := un_lt (N := N) (s := s) (s' := t1) (fun y hy => (a2.mem y).2 (.inl hy)) hx.1 (by omega) c hxt
      have hlen := a2.len
      simp only [List.length_append, List.length_singleton] at hlen
      obtain ⟨t2, o2, b1, b2, b3, b4⟩ := ihl (un N t1) (by omega) i ws t1 (out ++ (o1 ++ [x])) rfl a2.nd a2.rg ((a2.mem i).2 (.inl hi)) (fun y hy => hw y (List.mem_cons_of_mem _ hy)) (by simp only [List.length_append, List.length_singleton]; omega)
      refine ⟨t2, (o1 ++ [x]) ++ o2, ?_, ⟨b2.nd, b2.rg, ?_, ?_, ?_, ?_, ?_⟩, ?_, ?_⟩
      · have := Tot.bind (b := fun k st => graph_walk.lo k n ts i ws st.1 st.2) a1 b1
        rw [show out ++ (o1 ++ [x] ++ o2 ++ [i]) = out ++ (o1 ++ [x]) ++ (o2 ++ [i]) by simp]
        refine this.step (fun k => ?_)
        simp only [graph_walk.lo]
        rw [if_neg c]
      · intro y
        rw [b2.mem, a2.mem, List.mem_append (s := o1 ++ [x]), or_assoc]
      · intro y hy
        rcases List.mem_append.1 hy with hy | hy
        · exact a2.dis y hy
        · exact fun h => b2.dis y hy ((a2.mem y).2 (.inl h))
      · rw [List.nodup_append]
        exact ⟨a2.ond, b2.ond, fun y hy z hz e => b2.dis z hz ((a2.mem z).2 (.inr (e ▸ hy)))⟩
      · rw [b2.len, a2.len]
        simp only [List.length_append, List.length_singleton]
        omega
      · intro y hy z hz
        rcases List.mem_append.1 hy with hy | hy
        · exact (b2.mem z).2 (.inl (a2.shut y hy z hz))
        · exact b2.shut y hy z hz
      · intro y hy
        rcases List.mem_cons.1 hy with rfl | hy
        · exact (b2.mem y).2 (.inl hxt)
        · exact b3 y hy
      · intro y hy
        rcases List.mem_append.1 hy with hy | hy
        · rcases List.mem_append.1 hy with hy' | hy'
          · obtain ⟨p, hp, hb⟩ := a3 y hy'
            exact ⟨p, hp, by have := hb.right (o2 ++ [i]); rwa [show o1 ++ [x] ++ (o2 ++ [i]) = o1 ++ [x] ++ o2 ++ [i] by simp] at this⟩
          · obtain rfl := List.mem_singleton.1 hy'
            exact ⟨i, hw y List.mem_cons_self, Before.across (List.mem_append_left _ (by simp)) (by simp)⟩
        · obtain ⟨p, hp, hb⟩ := b4 y hy
          exact ⟨p, hp, by have := hb.left (o1 ++ [x]); rwa [show o1 ++ [x] ++ (o2 ++ [i]) = o1 ++ [x] ++ o2 ++ [i] by simp] at this⟩
theorem wgo_step (hn : n = N) (hN : N < 1000000) (hts : ∀ i, (rd_L1 ts i).length < 1000000) (u : Nat) (ihl : ∀ u', u' < u → LoSpec n ts N u') : GoSpec n ts N u := by
  intro i s out hu hd hr hi0 hiN his hl
  have hdi : (s ++ [i]).Nodup := by
    rw [List.nodup_append]
    exact ⟨hd, by simp, fun a ha b hb e => his (by rw [List.mem_singleton] at hb; subst hb; subst e; exact ha)⟩
  have hut := un_lt (N := N) (s := s) (s' := s ++ [i]) (fun y hy => List.mem_append_left _ hy) hi0 hiN his (by simp)
  obtain ⟨t, o, h1, h2, h3, h4⟩ := ihl (un N (s ++ [i])) (by omega) i (Wy n ts i) (s ++ [i]) out rfl hdi (by
    intro x hx
    rcases List.mem_append.1 hx with hx | hx
    · exact hr x hx
    · rw [List.mem_singleton.1 hx]; exact ⟨hi0, hiN⟩) (by simp) (fun x hx => hx) (by simp; omega)
  refine ⟨t, o, ?_, ⟨h2.nd, h2.rg, ?_, ?_, ?_, ?_, ?_⟩, h4⟩
  · have hw := ways_tot n ts i hi0 (hts i)
    have := Tot.bind (b := fun k (ws : List Int) => if ws.length < 1000000 then graph_walk.lo k n ts i ws (s ++ [i]) out else none) hw (Tot.pos (by have := Wy_length n ts i; have := hts i; omega) h1)
    exact this.step (fun k => rfl)
  · intro x
    rw [h2.mem, List.mem_append, List.mem_append, or_assoc]
    constructor
    · rintro (h | h | h)
      · exact .inl h
      · exact .inr (.inr h)
      · exact .inr (.inl h)
    · rintro (h | h | h)
      · exact .inl h
      · exact .inr (.inr h)
      · exact .inr (.inl h)
  · intro x hx h
    rcases List.mem_append.1 hx with hx | hx
    · exact h2.dis x hx (List.mem_append_left _ h)
    · exact his (by rw [← List.mem_singleton.1 hx]; exact h)
  · rw [List.nodup_append]
    exact ⟨h2.ond, by simp, fun a ha b hb e => h2.dis a ha (by rw [e, List.mem_singleton.1 hb]; simp)⟩
  · rw [h2.len]
    simp only [List.length_append, List.length_singleton]
    omega
  · intro x hx y hy
    rcases List.mem_append.1 hx with hx | hx
    · exact h2.shut x hx y hy
    · rw [List.mem_singleton.1 hx] at hy
      exact h3 y hy
theorem walk_both (hn : n = N) (hN : N < 1000000) (hts : ∀ i, (rd_L1 ts i).length < 1000000) : ∀ u, GoSpec n ts N u ∧ LoSpec n ts N u := by
  have key : ∀ m u, u < m → GoSpec n ts N u ∧ LoSpec n ts N u := by
    intro m
    induction m with
    | zero => intro u hu; omega
    | succ m ih =>
      intro u hu
      have hl : ∀ u', u' < u → LoSpec n ts N u' := fun u' hu' => (ih u' (by omega)).2
      have hg := wgo_step hn hN hts u hl
      exact ⟨hg, wlo_step hn hN u hg hl⟩
  exact fun u => key (u + 1) u (by omega)
/-- The walk from the block 0: what is seen, what is left in which order. -/
structure Walked (n : Int) (ts : List (List Int)) (N : Nat) (t o : List Int) : Prop where
  tnd : t.Nodup
  rg : ∀ x ∈ t, 0 ≤ x ∧ x < N
  mem : ∀ x, x ∈ t ↔ x ∈ o ∨ x = 0
  ond : (o ++ [0]).Nodup
  shut : ∀ x ∈ t, ∀ y ∈ Wy n ts x, y ∈ t
  par : ∀ x ∈ o, ∃ p, x ∈ Wy n ts p ∧ Before (o ++ [0]) x p
theorem walk_tot (hn : n = N) (hN : N < 1000000) (h0 : 0 < N) (hts : ∀ i, (rd_L1 ts i).length < 1000000) : ∃ t o, Tot (fun k => graph_walk.f k n ts) (t, o ++ [0]) ∧ Walked n ts N t o := by
  obtain ⟨t, o, h1, h2, h3⟩ := (walk_both hn hN hts (un N [])).1 0 [] [] rfl List.nodup_nil (by simp) (by omega) (by omega) (by simp) (Nat.le_refl _)
  refine ⟨t, o, ?_, h2.nd, h2.rg, ?_, h2.ond, ?_, h3⟩
  · refine h1.congr (fun k => ?_)
    unfold graph_walk.f
    rw [if_pos (by omega)]
  · intro x
    rw [h2.mem]
    simp
  · intro x hx
    exact h2.shut x (((h2.mem x).1 hx).resolve_left (by simp))
end
end Go.Proofs.Ytafjbebbmfihaaa.P
