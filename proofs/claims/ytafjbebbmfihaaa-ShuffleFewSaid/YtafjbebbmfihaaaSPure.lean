/- What shuffle_Line.f comes to: it ends, how many moves it makes, and when it uses the spare place; in plain Lean; no condition. -/
import Derived.Test.YtafjbebbmfihaaaSDefs
import Derived.Test.YtafjbebbmfihaaaGPure
namespace Go.Proofs.Ytafjbebbmfihaaa.P
open Go.RowKit Go.Proofs.YtafjbebbmfihaaaW.PrintWords Go.Proofs.YtafjbebbmfihaaaW.PrintLast Go.Proofs.YtafjbebbmfihaaaW.PrintMore
set_option linter.unusedVariables false
set_option linter.unusedSimpArgs false
set_option linter.unusedSectionVars false

/-! ### the map that is left, as a function; its ways -/
def it (m : Int → Option Int) : Nat → Int → Option Int
  | 0, x => some x
  | k + 1, x => (it m k x).bind m
theorem it_add (m : Int → Option Int) (i : Nat) (x : Int) : ∀ j, it m (i + j) x = (it m i x).bind (it m j)
  | 0 => by cases h : it m i x <;> simp [it, h]
  | j + 1 => by
    rw [← Nat.add_assoc, it, it_add m i x j]
    cases h : it m i x <;> simp [it]
theorem it_one (m : Int → Option Int) (x : Int) : it m 1 x = m x := by simp [it]
def OnC (m : Int → Option Int) (x : Int) : Prop := ∃ k, 0 < k ∧ it m k x = some x
/-- x is the least of a circle. -/
def Lst (m : Int → Option Int) (x : Int) : Prop := OnC m x ∧ ∀ j y, it m j x = some y → x ≤ y
theorem OnC.all {m : Int → Option Int} {x : Int} (h : OnC m x) : ∀ j, ∃ y, it m j x = some y := by
  obtain ⟨k, hk, e⟩ := h
  have big : ∀ q, it m (q * k) x = some x := by
    intro q
    induction q with
    | zero => simp [it]
    | succ q ih => rw [Nat.succ_mul, it_add, ih]; exact e
  intro j
  have h1 : j ≤ j * k := Nat.le_mul_of_pos_right _ hk
  have h2 := big j
  rw [show j * k = j + (j * k - j) by omega, it_add] at h2
  cases h : it m j x with
  | none => rw [h] at h2; cases h2
  | some y => exact ⟨y, rfl⟩
theorem OnC.step {m : Int → Option Int} {x y : Int} (h : OnC m x) {j : Nat} (hj : it m j x = some y) : OnC m y ∧ ∃ i, it m i y = some x := by
  obtain ⟨k, hk, e⟩ := h
  have big : ∀ q, it m (q * k) x = some x := by
    intro q
    induction q with
    | zero => simp [it]
    | succ q ih => rw [Nat.succ_mul, it_add, ih]; exact e
  have h1 : j ≤ (j + 1) * k := Nat.le_trans (Nat.le_mul_of_pos_right j hk) (Nat.mul_le_mul_right _ (by omega))
  have h2 := big (j + 1)
  rw [show (j + 1) * k = j + ((j + 1) * k - j) by omega, it_add, hj] at h2
  have h3 : it m ((j + 1) * k - j) y = some x := h2
  refine ⟨⟨((j + 1) * k - j) + j, ?_, ?_⟩, _, h3⟩
  · have : j + 1 ≤ (j + 1) * k := Nat.le_mul_of_pos_right _ hk
    omega
  · rw [it_add, h3]
    exact hj
/-- Two maps that tell the same along a circle of the first. -/
theorem it_same {m m' : Int → Option Int} {x : Int} (h : ∀ j y, it m j x = some y → m' y = m y) : ∀ j, it m' j x = it m j x
  | 0 => rfl
  | j + 1 => by
    rw [it, it, it_same h j]
    cases e : it m j x with
    | none => rfl
    | some y => exact h j y e
theorem Lst_same {m m' : Int → Option Int} {x : Int} (h : ∀ j y, it m j x = some y → m' y = m y) (hl : Lst m x) : Lst m' x := by
  have e := it_same h
  obtain ⟨⟨k, hk, hx⟩, hm⟩ := hl
  exact ⟨⟨k, hk, by rw [e]; exact hx⟩, fun j y hj => hm j y (by rw [← e]; exact hj)⟩

/-! ### finite -/
theorem sub_le : ∀ (l K : List Int), l.Nodup → (∀ x ∈ l, x ∈ K) → l.length ≤ K.length
  | [], K, _, _ => Nat.zero_le _
  | a :: l, K, hd, hs => by
    have ha := hs a List.mem_cons_self
    have h := sub_le l (K.erase a) (List.nodup_cons.1 hd).2 (fun x hx => by
      have hne : x ≠ a := fun e => (List.nodup_cons.1 hd).1 (e ▸ hx)
      exact (List.mem_erase_of_ne hne).2 (hs x (List.mem_cons_of_mem _ hx)))
    have := List.length_erase_of_mem ha
    have hp : 0 < K.length := List.length_pos_of_mem ha
    simp only [List.length_cons]
    omega
theorem nodup_map_range {f : Nat → Int} : ∀ n, (∀ i j, i < j → j < n → f i ≠ f j) → ((List.range n).map f).Nodup
  | 0, _ => by simp
  | n + 1, h => by
    rw [List.range_succ, List.map_append, List.nodup_append]
    refine ⟨nodup_map_range n (fun i j hij hj => h i j hij (by omega)), by simp, fun a ha b hb e => ?_⟩
    obtain ⟨i, hi, rfl⟩ := List.mem_map.1 ha
    have hi := List.mem_range.1 hi
    have hb : b = f n := by simpa using hb
    exact h i n hi (by omega) (e.trans hb)
/-- Of more than |K| places of K two are one. -/
theorem pigeon (K : List Int) (f : Nat → Int) (h : ∀ i, i ≤ K.length → f i ∈ K) : ∃ i j, i < j ∧ j ≤ K.length ∧ f i = f j := by
  refine Classical.byContradiction fun hn => ?_
  have hd := nodup_map_range (f := f) (K.length + 1) (fun i j hij hj e => hn ⟨i, j, hij, by omega, e⟩)
  have := sub_le _ K hd (fun x hx => by
    obtain ⟨i, hi, rfl⟩ := List.mem_map.1 hx
    exact h i (by have := List.mem_range.1 hi; omega))
  simp at this
  omega
/-- A circle within K has at most |K| places. -/
theorem period {m : Int → Option Int} (K : List Int) (hK : ∀ x y, m x = some y → x ∈ K) {x : Int} (h : OnC m x) : ∃ k, 0 < k ∧ k ≤ K.length ∧ it m k x = some x := by
  have hall := h.all
  have hmem : ∀ j y, it m j x = some y → y ∈ K := by
    intro j y hj
    obtain ⟨z, hz⟩ := hall (j + 1)
    rw [it, hj] at hz
    exact hK y z hz
  obtain ⟨i, j, hij, hj, e⟩ := pigeon K (fun j => (hall j).choose) (fun i _ => hmem i _ (hall i).choose_spec)
  have hi := (hall i).choose_spec
  have hjs := (hall j).choose_spec
  rw [← e] at hjs
  obtain ⟨y, hy⟩ : ∃ y, y = (hall i).choose := ⟨_, rfl⟩
  rw [← hy] at hi hjs
  -- y comes back to itself in j - i steps; x lies on y's circle
  have hyy : it m (j - i) y = some y := by
    have := it_add m i x (j - i)
    rw [show i + (j - i) = j by omega, hjs, hi] at this
    exact this.symm
  obtain ⟨hc, q, hq⟩ := h.step hi
  refine ⟨j - i, by omega, by omega, ?_⟩
  have h1 := it_add m q y (j - i)
  have h2 := it_add m (j - i) y q
  rw [hyy] at h2
  rw [Nat.add_comm, h2] at h1
  have h3 : it m q y = (it m q y).bind (it m (j - i)) := h1
  rw [hq] at h3
  exact h3.symm

/-! ### lists of pairs -/
def Keys (left : List (Int × Int)) : List Int := left.map (·.1)
theorem lf_get_mem {left : List (Int × Int)} {a b : Int} (h : lf_get left a = some b) : (a, b) ∈ left := by
  unfold lf_get at h
  obtain ⟨p, hp, e⟩ := Option.map_eq_some_iff.1 h
  have hm := List.mem_of_find?_eq_some hp
  have he : p.1 = a := by simpa using List.find?_some hp
  rw [← he, ← e]
  exact hm
theorem lf_get_of {left : List (Int × Int)} (hd : (Keys left).Nodup) {a b : Int} (h : (a, b) ∈ left) : lf_get left a = some b := by
  unfold lf_get
  cases e : left.find? (fun p => p.1 == a) with
  | none =>
    have := List.find?_eq_none.1 e (a, b) h
    simp at this
  | some p =>
    have hm := List.mem_of_find?_eq_some e
    have he : p.1 = a := by simpa using List.find?_some e
    simp only [Option.map_some, Option.some.injEq]
    obtain ⟨i, hi, ei⟩ := List.getElem_of_mem hm
    obtain ⟨j, hj, ej⟩ := List.getElem_of_mem h
    have : (Keys left)[i]'(by simpa [Keys] using hi) = (Keys left)[j]'(by simpa [Keys] using hj) := by
      simp only [Keys, List.getElem_map, ei, ej, he]
    have hij := (List.getElem_inj hd).1 this
    subst hij
    rw [← ei, ej]
theorem lf_get_none {left : List (Int × Int)} {a : Int} : lf_get left a = none ↔ a ∉ Keys left := by
  unfold lf_get Keys
  rw [Option.map_eq_none_iff, List.find?_eq_none]
  constructor
  · intro h hm
    obtain ⟨p, hp, e⟩ := List.mem_map.1 hm
    exact h p hp (by simpa using e)
  · intro h p hp e
    exact h (List.mem_map.2 ⟨p, hp, by simpa using e⟩)
theorem lf_get_key {left : List (Int × Int)} {a b : Int} (h : lf_get left a = some b) : a ∈ Keys left := List.mem_map.2 ⟨_, lf_get_mem h, rfl⟩
theorem del_keys {left : List (Int × Int)} (a : Int) (hd : (Keys left).Nodup) : (Keys (lf_del left a)).Nodup := by
  unfold Keys lf_del
  exact (List.Sublist.map _ List.filter_sublist).nodup hd
theorem del_mem {left : List (Int × Int)} {a : Int} {p : Int × Int} : p ∈ lf_del left a ↔ p ∈ left ∧ p.1 ≠ a := by
  unfold lf_del
  rw [List.mem_filter]
  simp
theorem lf_get_del {left : List (Int × Int)} (hd : (Keys left).Nodup) {a x : Int} (hx : x ≠ a) : lf_get (lf_del left a) x = lf_get left x := by
  cases h : lf_get left x with
  | none =>
    rw [lf_get_none] at h ⊢
    intro hm
    obtain ⟨p, hp, e⟩ := List.mem_map.1 hm
    exact h (List.mem_map.2 ⟨p, (del_mem.1 hp).1, e⟩)
  | some b => exact lf_get_of (del_keys a hd) (del_mem.2 ⟨lf_get_mem h, hx⟩)
theorem lf_get_del_self (left : List (Int × Int)) (a : Int) : lf_get (lf_del left a) a = none := by
  rw [lf_get_none]
  intro hm
  obtain ⟨p, hp, e⟩ := List.mem_map.1 hm
  exact (del_mem.1 hp).2 e
theorem lf_read_iff {left : List (Int × Int)} (hd : (Keys left).Nodup) {a : Int} : lf_read left a = true ↔ ∃ x, lf_get left x = some a := by
  unfold lf_read
  rw [List.any_eq_true]
  constructor
  · rintro ⟨p, hp, e⟩
    have e : p.2 = a := by simpa using e
    exact ⟨p.1, by rw [← e]; exact lf_get_of hd hp⟩
  · rintro ⟨x, hx⟩
    exact ⟨(x, a), lf_get_mem hx, by simp⟩
theorem del_len {left : List (Int × Int)} (hd : (Keys left).Nodup) {a b : Int} (h : lf_get left a = some b) : (lf_del left a).length + 1 = left.length := by
  have h0 : ∀ (l : List (Int × Int)), (Keys l).Nodup → a ∈ Keys l → (lf_del l a).length + 1 = l.length := by
    intro l
    induction l with
    | nil => intro _ h; cases h
    | cons p l ih =>
      intro hd hm
      have hd' : p.1 ∉ Keys l ∧ (Keys l).Nodup := List.nodup_cons.1 hd
      by_cases e : p.1 = a
      · have : lf_del (p :: l) a = l := by
          unfold lf_del
          rw [List.filter_cons_of_neg (by simp [e]), List.filter_eq_self]
          intro q hq
          have : q.1 ≠ a := fun e2 => hd'.1 (by rw [e, ← e2]; exact List.mem_map.2 ⟨q, hq, rfl⟩)
          simpa using this
        rw [this]
        rfl
      · have hm' : a ∈ Keys l := (List.mem_cons.1 hm).resolve_left (fun h => e h.symm)
        have : lf_del (p :: l) a = p :: lf_del l a := by
          unfold lf_del
          rw [List.filter_cons_of_pos (by simp [e])]
        rw [this]
        have := ih hd'.2 hm'
        simp only [List.length_cons]
        omega
  exact h0 left hd (lf_get_key h)

/-! ### how many circles -/
noncomputable instance (m : Int → Option Int) (x : Int) : Decidable (Lst m x) := Classical.propDecidable _
/-- How many of the order are the least of a circle. -/
noncomputable def nc (order : List Int) (m : Int → Option Int) : Nat := (order.filter fun x => decide (Lst m x)).length
theorem nc_le {order : List Int} {m m' : Int → Option Int} (h : ∀ x, Lst m x → Lst m' x) : nc order m ≤ nc order m' := by
  unfold nc
  induction order with
  | nil => exact Nat.le_refl _
  | cons a l ih =>
    by_cases c : Lst m a
    · rw [List.filter_cons_of_pos (by simpa using c), List.filter_cons_of_pos (by simpa using h a c)]
      simpa using ih
    · rw [List.filter_cons_of_neg (by simpa using c)]
      by_cases d : Lst m' a
      · rw [List.filter_cons_of_pos (by simpa using d)]
        exact Nat.le_succ_of_le ih
      · rw [List.filter_cons_of_neg (by simpa using d)]
        exact ih
theorem nc_lt {order : List Int} {m m' : Int → Option Int} (h : ∀ x, Lst m x → Lst m' x) {y : Int} (hy : y ∈ order) (h1 : Lst m' y) (h2 : ¬ Lst m y) : nc order m < nc order m' := by
  induction order with
  | nil => cases hy
  | cons a l ih =>
    have hle := nc_le (order := l) h
    unfold nc at *
    rcases List.mem_cons.1 hy with e | hy
    · subst e
      rw [List.filter_cons_of_neg (by simpa using h2), List.filter_cons_of_pos (by simpa using h1)]
      exact Nat.lt_succ_of_le hle
    · have ih := ih hy
      by_cases c : Lst m a
      · rw [List.filter_cons_of_pos (by simpa using c), List.filter_cons_of_pos (by simpa using h a c)]
        simpa using ih
      · rw [List.filter_cons_of_neg (by simpa using c)]
        by_cases d : Lst m' a
        · rw [List.filter_cons_of_pos (by simpa using d)]
          exact Nat.lt_succ_of_lt ih
        · rw [List.filter_cons_of_neg (by simpa using d)]
          exact ih
/-- What nobody reads is on no circle: to strike it breaks none and makes none. -/
theorem Lst_del {left : List (Int × Int)} (hd : (Keys left).Nodup) {a : Int} (hr : ¬ lf_read left a = true) (x : Int) : Lst (lf_get (lf_del left a)) x ↔ Lst (lf_get left) x := by
  have hno : ∀ y, lf_get left y ≠ some a := fun y h => hr ((lf_read_iff hd).2 ⟨y, h⟩)
  constructor
  · intro h
    refine Lst_same (fun j y hj => ?_) h
    have hya : y ≠ a := by
      intro e
      obtain ⟨z, hz⟩ := h.1.all (j + 1)
      rw [it, hj, e] at hz
      have hz : lf_get (lf_del left a) a = some z := hz
      rw [lf_get_del_self] at hz
      cases hz
    exact (lf_get_del hd hya).symm
  · intro h
    refine Lst_same (fun j y hj => ?_) h
    refine lf_get_del hd (fun e => ?_)
    obtain ⟨hc, _⟩ := h.1.step hj
    obtain ⟨k, hk, ek⟩ := hc
    obtain ⟨q, rfl⟩ : ∃ q, k = q + 1 := ⟨k - 1, by omega⟩
    rw [it] at ek
    obtain ⟨z, _, hz⟩ := Option.bind_eq_some_iff.1 ek
    rw [e] at hz
    exact hno z hz
theorem nc_del (order : List Int) {left : List (Int × Int)} (hd : (Keys left).Nodup) {a : Int} (hr : ¬ lf_read left a = true) : nc order (lf_get (lf_del left a)) = nc order (lf_get left) :=
  Nat.le_antisymm (nc_le fun x h => (Lst_del hd hr x).1 h) (nc_le fun x h => (Lst_del hd hr x).2 h)
/-- At rest each place that is left is on a circle. -/
theorem rest_circle {left : List (Int × Int)} (hd : (Keys left).Nodup) (hrest : ∀ x ∈ Keys left, lf_read left x = true) {a : Int} (ha : a ∈ Keys left) : OnC (lf_get left) a := by
  have hrd : ∀ x, ∃ y, x ∈ Keys left → (lf_get left y = some x) := by
    intro x
    by_cases h : x ∈ Keys left
    · obtain ⟨y, hy⟩ := (lf_read_iff hd).1 (hrest x h)
      exact ⟨y, fun _ => hy⟩
    · exact ⟨0, fun h' => absurd h' h⟩
  let r : Int → Int := fun x => (hrd x).choose
  have hr : ∀ x, x ∈ Keys left → lf_get left (r x) = some x := fun x => (hrd x).choose_spec
  let f : Nat → Int := fun i => Nat.rec a (fun _ x => r x) i
  have f0 : f 0 = a := rfl
  have fs : ∀ i, f (i + 1) = r (f i) := fun i => rfl
  have hf : ∀ i, f i ∈ Keys left := by
    intro i
    induction i with
    | zero => exact ha
    | succ i ih => rw [fs]; exact lf_get_key (hr _ ih)
  have back : ∀ i j, it (lf_get left) j (f (i + j)) = some (f i) := by
    intro i j
    induction j generalizing i with
    | zero => rfl
    | succ j ih =>
      have h1 := it_add (lf_get left) 1 (f (i + (j + 1))) j
      rw [Nat.add_comm 1 j] at h1
      rw [h1, it_one, show i + (j + 1) = (i + j) + 1 by omega, fs, hr _ (hf _)]
      exact ih i
  obtain ⟨i, j, hij, _, e⟩ := pigeon (Keys left) f (fun i _ => hf i)
  have h1 := back i (j - i)
  rw [show i + (j - i) = j by omega, ← e] at h1
  have h2 : OnC (lf_get left) (f i) := ⟨j - i, by omega, h1⟩
  have h3 := back 0 i
  rw [Nat.zero_add, f0] at h3
  exact (h2.step h3).1
/-- Some place of a circle is the least. -/
theorem least_on {m : Int → Option Int} {a : Int} (h : OnC m a) : ∃ y i, it m i a = some y ∧ Lst m y := by
  obtain ⟨k, hk, ek⟩ := id h
  have hall := h.all
  -- the least of the first n of the orbit
  have first : ∀ n, ∃ y i, it m i a = some y ∧ ∀ j z, j ≤ n → it m j a = some z → y ≤ z := by
    intro n
    induction n with
    | zero => exact ⟨a, 0, rfl, fun j z hj hz => by
        have : j = 0 := by omega
        subst this
        have : a = z := Option.some.inj hz
        omega⟩
    | succ n ih =>
      obtain ⟨y, i, hy, hmin⟩ := ih
      obtain ⟨z, hz⟩ := hall (n + 1)
      by_cases c : y ≤ z
      · refine ⟨y, i, hy, fun j z' hj hz' => ?_⟩
        by_cases e : j = n + 1
        · subst e
          rw [hz] at hz'
          have := Option.some.inj hz'
          omega
        · exact hmin j z' (by omega) hz'
      · refine ⟨z, n + 1, hz, fun j z' hj hz' => ?_⟩
        by_cases e : j = n + 1
        · subst e
          rw [hz] at hz'
          have := Option.some.inj hz'
          omega
        · have := hmin j z' (by omega) hz'
          omega
  obtain ⟨y, i, hy, hmin⟩ := first k
  -- all of the orbit is among the first k
  have big : ∀ q, it m (q * k) a = some a := by
    intro q
    induction q with
    | zero => simp [it]
    | succ q ih => rw [Nat.succ_mul, it_add, ih]; exact ek
  have hmin2 : ∀ j z, it m j a = some z → y ≤ z := by
    intro j z hz
    refine hmin (j % k) z (Nat.le_of_lt (Nat.mod_lt _ hk)) ?_
    have h1 := it_add m ((j / k) * k) a (j % k)
    rw [big, show (j / k) * k + j % k = j by rw [Nat.mul_comm]; exact Nat.div_add_mod j k, hz] at h1
    exact h1.symm
  refine ⟨y, i, hy, (h.step hy).1, fun j z hz => hmin2 (i + j) z ?_⟩
  rw [it_add, hy]
  exact hz
def turned (a spare : Int) (left : List (Int × Int)) : List (Int × Int) := left.map fun p => if p.2 = a then (p.1, spare) else p
theorem turned_keys (a spare : Int) (left : List (Int × Int)) : Keys (turned a spare left) = Keys left := by
  unfold Keys turned
  rw [List.map_map]
  apply List.map_congr_left
  intro p _
  show (if p.2 = a then (p.1, spare) else p).1 = p.1
  split <;> rfl
theorem lf_get_turned {a spare : Int} {left : List (Int × Int)} (hd : (Keys left).Nodup) (x : Int) : lf_get (turned a spare left) x = (lf_get left x).map fun v => if v = a then spare else v := by
  have hd2 : (Keys (turned a spare left)).Nodup := by rw [turned_keys]; exact hd
  cases h : lf_get left x with
  | none =>
    rw [lf_get_none] at h
    show lf_get (turned a spare left) x = none
    rw [lf_get_none, turned_keys]
    exact h
  | some b =>
    refine lf_get_of hd2 ?_
    refine List.mem_map.2 ⟨_, lf_get_mem h, ?_⟩
    dsimp only
    split <;> rfl
/-- To turn who reads a away to the spare place breaks a's circle, and makes none. -/
theorem nc_turned {order : List Int} {left : List (Int × Int)} {a spare : Int} (hd : (Keys left).Nodup) (hs : spare ∉ Keys left) (hsub : ∀ x ∈ Keys left, x ∈ order) (ha : OnC (lf_get left) a) (has : a ≠ spare) : nc order (lf_get (turned a spare left)) < nc order (lf_get left) := by
  have hg := lf_get_turned (a := a) (spare := spare) hd
  have hns : lf_get (turned a spare left) spare = none := by rw [lf_get_none, turned_keys]; exact hs
  have key : ∀ x, OnC (lf_get (turned a spare left)) x → ∀ j y, it (lf_get (turned a spare left)) j x = some y → lf_get left y = lf_get (turned a spare left) y := by
    intro x hx j y hj
    obtain ⟨z, hz⟩ := hx.all (j + 1)
    have hz1 := hz
    rw [it, hj] at hz
    have hz : lf_get (turned a spare left) y = some z := hz
    have hzs : z ≠ spare := by
      intro e
      obtain ⟨u, hu⟩ := hx.all (j + 1 + 1)
      rw [it, hz1, e] at hu
      have hu : lf_get (turned a spare left) spare = some u := hu
      rw [hns] at hu
      cases hu
    rw [hz]
    rw [hg y] at hz
    obtain ⟨v, hv, e⟩ := Option.map_eq_some_iff.1 hz
    rw [hv]
    split at e
    · exact absurd e.symm hzs
    · rw [e]
  have sub : ∀ x, Lst (lf_get (turned a spare left)) x → Lst (lf_get left) x := fun x hx => Lst_same (fun j y hj => key x hx.1 j y hj) hx
  obtain ⟨y, i, hy, hl⟩ := least_on ha
  obtain ⟨hyc, _⟩ := ha.step hy
  have hyo : y ∈ order := by
    obtain ⟨z, hz⟩ := hyc.all 1
    rw [it_one] at hz
    exact hsub y (lf_get_key hz)
  refine nc_lt sub hyo hl (fun hl2 => ?_)
  -- y's way in what is left goes through a
  have hsame := it_same (m := lf_get (turned a spare left)) (m' := lf_get left) (x := y) (fun j z hj => key y hl2.1 j z hj)
  obtain ⟨_, q, hq⟩ := ha.step hy
  have hex : ∃ q, 0 < q ∧ it (lf_get left) q y = some a := by
    cases q with
    | zero =>
      obtain ⟨k, hk, ek⟩ := hyc
      have : y = a := Option.some.inj hq
      exact ⟨k, hk, by rw [ek, this]⟩
    | succ q => exact ⟨q + 1, by omega, hq⟩
  obtain ⟨q, hq0, hq⟩ := hex
  obtain ⟨p, rfl⟩ : ∃ p, q = p + 1 := ⟨q - 1, by omega⟩
  rw [hsame (p + 1), it] at hq
  obtain ⟨z, _, hz⟩ := Option.bind_eq_some_iff.1 hq
  rw [hg z] at hz
  obtain ⟨v, _, e⟩ := Option.map_eq_some_iff.1 hz
  split at e
  · exact has e.symm
  · rename_i hne
    exact hne e
end Go.Proofs.Ytafjbebbmfihaaa.P
