/- ferrulelaw20.ShuffleFew answers true, in plain Lean; no condition. -/
import Derived.Test.YtafjbebbmfihaaaSPureL
import Derived.Test.YtafjbebbmfihaaaGBits
import Derived.Test.YtafjbebbmfihaaaPx11
namespace Go.Proofs.Ytafjbebbmfihaaa.P
open Go.RowKit Go.Proofs.YtafjbebbmfihaaaW.PrintWords Go.Proofs.YtafjbebbmfihaaaW.PrintLast Go.Proofs.YtafjbebbmfihaaaW.PrintMore
set_option linter.unusedVariables false
set_option linter.unusedSimpArgs false
set_option linter.unusedSectionVars false

theorem rdT_at {l : List S38} {j : Nat} (h : j < l.length) : rd_T38 l (j : Int) = l[j] := by simp [rd_T38, List.getD, h]

/-! ### right -/
/-- The first i are right. -/
def RightTo (l : List S38) (spare : Int) (i : Nat) : Prop := ∀ (a : Nat) (h : a < l.length), a < i → l[a].f0 ≠ spare ∧ l[a].f1 ≠ spare ∧ ∀ (b : Nat) (h' : b < l.length), b < a → l[b].f0 ≠ l[a].f0
theorem right_l1 (l : List S38) (spare : Int) (hl : l.length < 100) (i : Nat) (hi : i < l.length) (hok : l[i].f0 ≠ spare ∧ l[i].f1 ≠ spare) (hR : RightTo l spare i)
    (ih : RightTo l spare (i + 1) → ∃ b, Tot (fun k => ferrulelaw20_right.l0 k l spare ((i + 1 : Nat) : Int)) b ∧ (b = true → RightTo l spare l.length)) :
    ∀ (d j : Nat), d = i - j → j ≤ i → (∀ (b : Nat) (h : b < l.length), b < j → l[b].f0 ≠ l[i].f0) → ∃ b, Tot (fun k => ferrulelaw20_right.l1 k l spare (i : Int) (j : Int)) b ∧ (b = true → RightTo l spare l.length) := by
  intro d
  induction d with
  | zero =>
    intro j hd hj hne
    have e : j = i := by omega
    subst e
    obtain ⟨b, t, h⟩ := ih (fun a ha hai => by
      by_cases c : a = j
      · subst c
        exact ⟨hok.1, hok.2, hne⟩
      · exact hR a ha (by omega))
    refine ⟨b, t.step (fun k => ?_), h⟩
    rw [ferrulelaw20_right.l1, if_neg (by omega), w64n _ (by omega)]
  | succ d ihd =>
    intro j hd hj hne
    have hjl : j < l.length := by omega
    have h1 := rdT_at hjl
    have h2 := rdT_at hi
    by_cases c : l[j].f0 = l[i].f0
    · refine ⟨false, (Tot.pure _).step (fun k => ?_), fun h => by cases h⟩
      rw [ferrulelaw20_right.l1, if_pos (by omega), if_pos (by omega), if_pos (by omega), if_pos (by omega), if_pos (by omega), h1, h2, if_pos c]
    · obtain ⟨b, t, h⟩ := ihd (j + 1) (by omega) (by omega) (fun b hb hbj => by
        by_cases e : b = j
        · subst e; exact c
        · exact hne b hb (by omega))
      refine ⟨b, t.step (fun k => ?_), h⟩
      rw [ferrulelaw20_right.l1, if_pos (by omega), if_pos (by omega), if_pos (by omega), if_pos (by omega), if_pos (by omega), h1, h2, if_neg c, w64n _ (by omega)]
theorem right_l0 (l : List S38) (spare : Int) (hl : l.length < 100) : ∀ (d i : Nat), d = l.length - i → i ≤ l.length → RightTo l spare i → ∃ b, Tot (fun k => ferrulelaw20_right.l0 k l spare (i : Int)) b ∧ (b = true → RightTo l spare l.length) := by
  intro d
  induction d with
  | zero =>
    intro i hd hi hR
    have e : i = l.length := by omega
    refine ⟨true, (Tot.pure _).step (fun k => ?_), fun _ => by rw [← e]; exact hR⟩
    rw [ferrulelaw20_right.l0, if_neg (by omega)]
  | succ d ih =>
    intro i hd hi hR
    have hlt : i < l.length := by omega
    have h1 := rdT_at hlt
    by_cases c : l[i].f0 = spare
    · refine ⟨false, ((Tot.pure _).step (f := fun k => ferrulelaw20_right.j1 k l spare (i : Int) true) (fun k => ?_)).step (fun k => ?_), fun h => by cases h⟩
      · rw [ferrulelaw20_right.j1, if_pos rfl]
      · rw [ferrulelaw20_right.l0, if_pos (by omega), if_pos (by omega), h1, if_pos c]
    · by_cases c2 : l[i].f1 = spare
      · refine ⟨false, ((Tot.pure _).step (f := fun k => ferrulelaw20_right.j1 k l spare (i : Int) true) (fun k => ?_)).step (fun k => ?_), fun h => by cases h⟩
        · rw [ferrulelaw20_right.j1, if_pos rfl]
        · rw [ferrulelaw20_right.l0, if_pos (by omega), if_pos (by omega), h1, if_neg c, c2]
          simp
      · obtain ⟨b, t, h⟩ := right_l1 l spare hl i hlt ⟨c, c2⟩ hR (ih (i + 1) (by omega) (by omega)) i 0 (by omega) (Nat.zero_le _) (fun b _ hb => by omega)
        refine ⟨b, (t.step (f := fun k => ferrulelaw20_right.j1 k l spare (i : Int) false) (fun k => ?_)).step (fun k => ?_), h⟩
        · rw [ferrulelaw20_right.j1, if_neg (by decide)]
          rfl
        · have hbe : (l[i].f1 == spare) = false := by rw [beq_eq_false_iff_ne]; exact c2
          rw [ferrulelaw20_right.l0, if_pos (by omega), if_pos (by omega), h1, if_neg c, hbe]

/-! ### what moves something -/
def mvs (l : List S38) : List S38 := l.filter fun m => decide (m.f0 ≠ m.f1)
def lef (l : List S38) : List (Int × Int) := (mvs l).map fun m => (m.f0, m.f1)
structure Rgt (l : List S38) (spare : Int) : Prop where
  nd : (l.map (·.f0)).Nodup
  ok : ∀ m ∈ l, m.f0 ≠ spare ∧ m.f1 ≠ spare
theorem RightTo.rgt {l : List S38} {spare : Int} (h : RightTo l spare l.length) : Rgt l spare := by
  refine ⟨List.pairwise_iff_getElem.2 (fun i j hi hj hij => ?_), fun m hm => ?_⟩
  · rw [List.length_map] at hi hj
    simp only [List.getElem_map]
    exact (h j hj hj).2.2 i hi hij
  · obtain ⟨i, hi, rfl⟩ := List.getElem_of_mem hm
    exact ⟨(h i hi hi).1, (h i hi hi).2.1⟩
theorem take_is : ∀ (l : List S38) (spare : Int) (seen : List Int) (left : List (Int × Int)) (order : List Int), Rgt l spare → (∀ m ∈ l, m.f0 ∉ seen) →
    shuffle_Line.take l spare seen left order = some (left ++ lef l, order ++ Keys (lef l))
  | [], spare, seen, left, order, _, _ => by simp [shuffle_Line.take, lef, mvs, Keys]
  | m :: l, spare, seen, left, order, hR, hs => by
    have hnd : m.f0 ∉ l.map (·.f0) ∧ (l.map (·.f0)).Nodup := List.nodup_cons.1 hR.nd
    have hok := hR.ok m List.mem_cons_self
    have hR' : Rgt l spare := ⟨hnd.2, fun x hx => hR.ok x (List.mem_cons_of_mem _ hx)⟩
    have hs' : ∀ x ∈ l, x.f0 ∉ seen ++ [m.f0] := by
      intro x hx h
      rcases List.mem_append.1 h with h | h
      · exact hs x (List.mem_cons_of_mem _ hx) h
      · exact hnd.1 (by rw [← List.mem_singleton.1 h]; exact List.mem_map.2 ⟨x, hx, rfl⟩)
    rw [shuffle_Line.take, if_neg (fun h => h.elim (hs m List.mem_cons_self) (fun h => h.elim hok.1 hok.2))]
    by_cases c : m.f0 = m.f1
    · rw [if_pos c, take_is l spare _ left order hR' hs']
      have : lef (m :: l) = lef l := by unfold lef mvs; rw [List.filter_cons_of_neg (by simpa using c)]
      rw [this]
    · rw [if_neg c, take_is l spare _ (left ++ [(m.f0, m.f1)]) (order ++ [m.f0]) hR' hs']
      have : lef (m :: l) = (m.f0, m.f1) :: lef l := by unfold lef mvs; rw [List.filter_cons_of_pos (by simpa using c), List.map_cons]
      rw [this]
      simp [Keys]
theorem lef_keys (l : List S38) : Keys (lef l) = (mvs l).map (·.f0) := by simp [Keys, lef]
theorem lef_nd {l : List S38} {spare : Int} (h : Rgt l spare) : (Keys (lef l)).Nodup := by
  rw [lef_keys]
  exact (List.Sublist.map _ List.filter_sublist).nodup h.nd
theorem lef_len (l : List S38) : (lef l).length = (mvs l).length := by simp [lef]
theorem lef_get {l : List S38} {spare : Int} (h : Rgt l spare) {m : S38} (hm : m ∈ l) (hne : m.f0 ≠ m.f1) : lf_get (lef l) m.f0 = some m.f1 :=
  lf_get_of (lef_nd h) (List.mem_map.2 ⟨m, List.mem_filter.2 ⟨hm, by simpa using hne⟩, rfl⟩)
theorem lef_get_some {l : List S38} {x y : Int} (h : lf_get (lef l) x = some y) : ∃ m ∈ l, m.f0 = x ∧ m.f1 = y ∧ x ≠ y := by
  obtain ⟨m, hm, e⟩ := List.mem_map.1 (lf_get_mem h)
  have hf := List.mem_filter.1 hm
  rw [Prod.mk.injEq] at e
  exact ⟨m, hf.1, e.1, e.2, by rw [← e.1, ← e.2]; simpa using hf.2⟩
/-- shuffle.Line at right moves. -/
theorem line_tot {l : List S38} {spare : Int} (hl : l.length < 100) (hR : Rgt l spare) : ∃ out, Tot (fun k => shuffle_Line.f k l spare) (out, 0) ∧ out.length ≤ (lef l).length + nc (Keys (lef l)) (lf_get (lef l)) ∧ (Used spare out ↔ 0 < nc (Keys (lef l)) (lf_get (lef l))) := by
  have hs : spare ∉ Keys (lef l) := by
    intro h
    rw [lef_keys] at h
    obtain ⟨m, hm, e⟩ := List.mem_map.1 h
    exact (hR.ok m (List.mem_filter.1 hm).1).1 e
  have hL : Lf (Keys (lef l)) spare (lef l) := ⟨lef_nd hR, fun x hx => hx⟩
  obtain ⟨l1, o1, f1, f2, f3, f4, f5, f6⟩ := free_is hs _ (lef l) [] (Nat.lt_succ_self _) hL
  obtain ⟨out, t1, t2, t3⟩ := circ_is hs (Keys (lef l)) l1 o1 (fun _ h => h) f2 f6
  refine ⟨out, ?_, ?_, ?_⟩
  · have htk := take_is l spare [] [] [] hR (by simp)
    rw [List.nil_append, List.nil_append] at htk
    have hb := Tot.bind (b := fun k (r : List (Int × Int) × List S38) => (shuffle_Line.circ k spare (Keys (lef l)) (Keys (lef l)) r.1 r.2).bind fun out => some (out, (0 : Int))) f1 (Tot.bind (b := fun _ out => some (out, (0 : Int))) t1 (Tot.pure _))
    refine hb.congr (fun k => ?_)
    unfold shuffle_Line.f
    rw [if_pos (by omega), htk]
  · simp only [List.length_nil] at f3
    omega
  · rw [t3]
    have hno : ¬ Used spare o1 := fun h => by
      obtain ⟨m, hm, _⟩ := f4.1 h
      cases hm
    rw [← f5]
    constructor
    · rintro (h | ⟨a, ha, hn⟩)
      · exact absurd h hno
      · have hk : a ∈ Keys l1 := Classical.byContradiction fun h => hn (lf_get_none.2 h)
        obtain ⟨y, i, hy, hl⟩ := least_on (rest_circle f2.kd f6 hk)
        obtain ⟨z, hz⟩ := hl.1.all 1
        rw [it_one] at hz
        have hyo := f2.sub y (lf_get_key hz)
        exact List.length_pos_of_mem (List.mem_filter.2 ⟨hyo, by simpa using hl⟩)
    · intro h
      obtain ⟨y, hy⟩ := List.exists_mem_of_length_pos h
      obtain ⟨hy1, hy2⟩ := List.mem_filter.1 hy
      have hl : Lst (lf_get l1) y := by simpa using hy2
      obtain ⟨z, hz⟩ := hl.1.all 1
      rw [it_one] at hz
      exact .inr ⟨y, hy1, by rw [hz]; simp⟩

/-! ### circles -/
/-- x comes back first in p steps. -/
theorem Lst_first {m : Int → Option Int} {x : Int} {p : Nat} (hp : 0 < p) (h : it m p x = some x) (hn : ∀ j, 0 < j → j < p → it m j x ≠ some x) : Lst m x ↔ ∀ j y, 0 < j → j < p → it m j x = some y → x < y := by
  have big : ∀ q, it m (q * p) x = some x := by
    intro q
    induction q with
    | zero => simp [it]
    | succ q ih => rw [Nat.succ_mul, it_add, ih]; exact h
  constructor
  · intro hl j y h0 h1 hy
    have := hl.2 j y hy
    have hne : x ≠ y := fun e => hn j h0 h1 (by rw [hy, ← e])
    omega
  · intro hall
    refine ⟨⟨p, hp, h⟩, fun j y hj => ?_⟩
    have h1 := it_add m ((j / p) * p) x (j % p)
    rw [big, show (j / p) * p + j % p = j by rw [Nat.mul_comm]; exact Nat.div_add_mod j p, hj] at h1
    have h1 : it m (j % p) x = some y := h1.symm
    by_cases c : j % p = 0
    · rw [c] at h1
      have : x = y := Option.some.inj h1
      omega
    · exact Int.le_of_lt (hall (j % p) y (by omega) (Nat.mod_lt _ hp) h1)
/-- The next place, as the law looks for it. -/
def nxf (at_ : Int) (c : Int) (l : List S38) : Int := l.foldl (fun c m => if m.f0 = at_ then m.f1 else c) c
theorem nxf_none (at_ : Int) : ∀ (l : List S38) (c : Int), (∀ m ∈ l, m.f0 ≠ at_) → nxf at_ c l = c
  | [], c, _ => rfl
  | m :: l, c, h => by
    unfold nxf
    rw [List.foldl_cons, if_neg (h m List.mem_cons_self)]
    exact nxf_none at_ l c (fun x hx => h x (List.mem_cons_of_mem _ hx))
theorem nxf_some (at_ : Int) : ∀ (l : List S38) (c : Int) (m : S38), (l.map (·.f0)).Nodup → m ∈ l → m.f0 = at_ → nxf at_ c l = m.f1
  | x :: l, c, m, hd, hm, he => by
    have hnd : x.f0 ∉ l.map (·.f0) ∧ (l.map (·.f0)).Nodup := List.nodup_cons.1 hd
    unfold nxf
    rw [List.foldl_cons]
    rcases List.mem_cons.1 hm with e | hm
    · subst e
      rw [if_pos he]
      exact nxf_none at_ l m.f1 (fun y hy e2 => hnd.1 (by rw [he, ← e2]; exact List.mem_map.2 ⟨y, hy, rfl⟩))
    · have hne : x.f0 ≠ at_ := fun e2 => hnd.1 (by rw [e2, ← he]; exact List.mem_map.2 ⟨m, hm, rfl⟩)
      rw [if_neg hne]
      exact nxf_some at_ l c m hnd.2 hm he
theorem nxf_is {l : List S38} {spare : Int} (hR : Rgt l spare) (at_ : Int) : nxf at_ at_ l = (lf_get (lef l) at_).getD at_ := by
  cases h : lf_get (lef l) at_ with
  | some v =>
    obtain ⟨m, hm, e1, e2, _⟩ := lef_get_some h
    rw [nxf_some at_ l at_ m hR.nd hm e1, e2]
    rfl
  | none =>
    by_cases c : ∃ m ∈ l, m.f0 = at_
    · obtain ⟨m, hm, e⟩ := c
      rw [nxf_some at_ l at_ m hR.nd hm e]
      show m.f1 = at_
      refine Classical.byContradiction fun hne => ?_
      have := lef_get hR hm (fun e2 => hne (by rw [← e2, e]))
      rw [e, h] at this
      cases this
    · rw [nxf_none at_ l at_ (fun m hm e => c ⟨m, hm, e⟩)]
      rfl
section
variable {l : List S38} {spare : Int} (hl : l.length < 100) (hR : Rgt l spare)
include hl hR
/-- what the search leads on to -/
theorem circ_l2 (x4 x5 : Int) (i : Nat) (at_ : Int) (ls : Bool) (s : Nat) {r : Int × Int}
    (cont : Tot (fun k => ferrulelaw20_circles.l2 k l x4 x5 (i : Int) at_ ls (s : Int) (nxf at_ at_ l) ((l.length : Nat) : Int)) r) :
    ∀ (d j : Nat) (c : Int), d = l.length - j → j ≤ l.length → nxf at_ c (l.drop j) = nxf at_ at_ l → Tot (fun k => ferrulelaw20_circles.l2 k l x4 x5 (i : Int) at_ ls (s : Int) c (j : Int)) r := by
  intro d
  induction d with
  | zero =>
    intro j c hd hj he
    have e : j = l.length := by omega
    subst e
    rw [List.drop_length] at he
    have he : c = nxf at_ at_ l := he
    rw [he]
    exact cont
  | succ d ih =>
    intro j c hd hj he
    have hlt : j < l.length := by omega
    have h1 := rdT_at hlt
    rw [List.drop_eq_getElem_cons hlt] at he
    have he : nxf at_ (if l[j].f0 = at_ then l[j].f1 else c) (l.drop (j + 1)) = nxf at_ at_ l := he
    have ih := ih (j + 1) _ (by omega) (by omega) he
    by_cases e : l[j].f0 = at_
    · rw [if_pos e] at ih
      refine ih.step (fun k => ?_)
      rw [ferrulelaw20_circles.l2, if_pos (by omega), if_pos (by omega), h1, if_pos e, w64n _ (by omega)]
    · rw [if_neg e] at ih
      refine ih.step (fun k => ?_)
      rw [ferrulelaw20_circles.l2, if_pos (by omega), if_pos (by omega), h1, if_neg e, w64n _ (by omega)]
/-- The walk from one place. -/
theorem circ_l1 (x4 : Int) (x5 : Nat) (hx5 : x5 < 1000) (i : Nat) (hi : i < l.length) {r : Int × Int}
    (cont : Tot (fun k => ferrulelaw20_circles.l0 k l x4 ((x5 + (if Lst (lf_get (lef l)) l[i].f0 then 1 else 0) : Nat) : Int) ((i + 1 : Nat) : Int)) r) :
    ∀ (d s : Nat) (at_ : Int) (ls : Bool), d = l.length - s → s ≤ l.length → it (lf_get (lef l)) (s + 1) l[i].f0 = some at_ → (ls = true ↔ ∀ j y, 0 < j → j < s + 1 → it (lf_get (lef l)) j l[i].f0 = some y → l[i].f0 < y) →
      (∀ j, 0 < j → j < s + 1 → it (lf_get (lef l)) j l[i].f0 ≠ some l[i].f0) → Tot (fun k => ferrulelaw20_circles.l1 k l x4 (x5 : Int) (i : Int) at_ ls (s : Int)) r := by
  have h1 := rdT_at hi
  have hkl : (Keys (lef l)).length ≤ l.length := by
    rw [lef_keys, List.length_map]
    exact List.length_filter_le _ _
  generalize l[i] = q at h1 cont ⊢
  have hno : ∀ {x v : Int}, lf_get (lef l) x = some v → v ≠ x := fun h e => by
    obtain ⟨m, _, _, _, hne⟩ := lef_get_some h
    exact hne e.symm
  -- the walk is back
  have stopA : ∀ (s : Nat) (ls : Bool), s ≤ l.length → it (lf_get (lef l)) (s + 1) q.f0 = some q.f0 → (ls = true ↔ ∀ j y, 0 < j → j < s + 1 → it (lf_get (lef l)) j q.f0 = some y → q.f0 < y) → (∀ j, 0 < j → j < s + 1 → it (lf_get (lef l)) j q.f0 ≠ some q.f0) →
      Tot (fun k => ferrulelaw20_circles.j2 k l x4 (x5 : Int) (i : Int) q.f0 ls (s : Int) false) r := by
    intro s ls hs hit hls hn
    have hL := Lst_first (Nat.succ_pos s) hit hn
    by_cases c : ls = true
    · have hl2 : Lst (lf_get (lef l)) q.f0 := hL.2 (hls.1 c)
      rw [if_pos hl2] at cont
      refine cont.step (fun k => ?_)
      rw [ferrulelaw20_circles.j2, if_neg (by decide), if_pos (by omega), if_pos (by omega), h1, if_pos rfl, if_pos c, w64n _ (by omega), w64n _ (by omega)]
    · have hl2 : ¬ Lst (lf_get (lef l)) q.f0 := fun h => c (hls.2 (hL.1 h))
      rw [if_neg hl2, Nat.add_zero] at cont
      refine cont.step (fun k => ?_)
      rw [ferrulelaw20_circles.j2, if_neg (by decide), if_pos (by omega), if_pos (by omega), h1, if_pos rfl, if_neg c, w64n _ (by omega)]
  intro d
  induction d with
  | zero =>
    intro s at_ ls hd hs hit hls hn
    have es : s = l.length := by omega
    by_cases e : at_ = q.f0
    · subst e
      refine (stopA s ls hs hit hls hn).step (fun k => ?_)
      rw [ferrulelaw20_circles.l1, if_neg (by omega)]
    · have hl2 : ¬ Lst (lf_get (lef l)) q.f0 := by
        intro h
        obtain ⟨p, hp0, hp1, hp2⟩ := period (Keys (lef l)) (fun x y h => lf_get_key h) h.1
        exact hn p hp0 (by omega) hp2
      rw [if_neg hl2, Nat.add_zero] at cont
      refine (cont.step (f := fun k => ferrulelaw20_circles.j2 k l x4 (x5 : Int) (i : Int) at_ ls (s : Int) false) (fun k => ?_)).step (fun k => ?_)
      · rw [ferrulelaw20_circles.j2, if_neg (by decide), if_pos (by omega), if_pos (by omega), h1, if_neg e, w64n _ (by omega)]
      · rw [ferrulelaw20_circles.l1, if_neg (by omega)]
  | succ d ih =>
    intro s at_ ls hd hs hit hls hn
    have hsl : s < l.length := by omega
    by_cases e : at_ = q.f0
    · subst e
      refine (stopA s ls hs hit hls hn).step (fun k => ?_)
      rw [ferrulelaw20_circles.l1, if_pos (by omega), if_pos (by omega), if_pos (by omega), h1]
      simp
    · have hne : (at_ != q.f0) = true := by rw [bne_iff_ne]; exact e
      have hnx := nxf_is hR at_
      have goon : Tot (fun k => ferrulelaw20_circles.l2 k l x4 (x5 : Int) (i : Int) at_ ls (s : Int) (nxf at_ at_ l) ((l.length : Nat) : Int)) r := by
        have hit2 : it (lf_get (lef l)) (s + 1 + 1) q.f0 = lf_get (lef l) at_ := by rw [it, hit]; rfl
        cases hm : lf_get (lef l) at_ with
        | none =>
          rw [hm] at hnx hit2
          have hnx : nxf at_ at_ l = at_ := hnx
          have hl2 : ¬ Lst (lf_get (lef l)) q.f0 := by
            intro h
            obtain ⟨z, hz⟩ := h.1.all (s + 1 + 1)
            rw [hit2] at hz
            cases hz
          rw [if_neg hl2, Nat.add_zero] at cont
          rw [hnx]
          refine cont.step (fun k => ?_)
          by_cases c : ls = true
          · rw [ferrulelaw20_circles.l2, if_neg (by omega), if_pos c, if_pos (by omega), if_pos (by omega), if_pos rfl, h1, if_neg e, w64n _ (by omega)]
          · rw [ferrulelaw20_circles.l2, if_neg (by omega), if_neg c, if_pos rfl, if_pos (by omega), if_pos (by omega), h1, if_neg e, w64n _ (by omega)]
        | some v =>
          rw [hm] at hnx hit2
          have hnx : nxf at_ at_ l = v := hnx
          have hva := hno hm
          rw [hnx]
          have hn2 : ∀ j, 0 < j → j < s + 1 + 1 → it (lf_get (lef l)) j q.f0 ≠ some q.f0 := by
            intro j h0 hj
            by_cases c : j = s + 1
            · subst c
              rw [hit]
              exact fun h => e (Option.some.inj h)
            · exact hn j h0 (by omega)
          by_cases c : ls = true
          · have ih := ih (s + 1) v (decide (at_ > q.f0)) (by omega) (by omega) hit2 (by
              rw [decide_eq_true_iff]
              constructor
              · intro hgt j y h0 hj hy
                by_cases cj : j = s + 1
                · subst cj
                  rw [hit] at hy
                  have := Option.some.inj hy
                  omega
                · exact hls.1 c j y h0 (by omega) hy
              · intro h
                exact h (s + 1) at_ (by omega) (by omega) hit) hn2
            refine ih.step (fun k => ?_)
            rw [ferrulelaw20_circles.l2, if_neg (by omega), if_pos c, if_pos (by omega), if_pos (by omega), if_neg hva, h1, w64n _ (by omega)]
          · have ih := ih (s + 1) v false (by omega) (by omega) hit2 (by
              constructor
              · intro h; cases h
              · intro h
                exact absurd (hls.2 (fun j y h0 hj hy => h j y h0 (by omega) hy)) c) hn2
            refine ih.step (fun k => ?_)
            rw [ferrulelaw20_circles.l2, if_neg (by omega), if_neg c, if_neg hva, w64n _ (by omega)]
      have h2 := circ_l2 hl hR x4 (x5 : Int) i at_ ls s goon l.length 0 at_ (by omega) (Nat.zero_le _) rfl
      refine (h2.step (f := fun k => ferrulelaw20_circles.j2 k l x4 (x5 : Int) (i : Int) at_ ls (s : Int) true) (fun k => ?_)).step (fun k => ?_)
      · rw [ferrulelaw20_circles.j2, if_pos rfl]
        rfl
      · rw [ferrulelaw20_circles.l1, if_pos (by omega), if_pos (by omega), if_pos (by omega), h1, hne]
/-- Among the first i: those that move, and those that are the least of a circle. -/
theorem circ_l0 : ∀ (d i : Nat), d = l.length - i → i ≤ l.length →
    Tot (fun k => ferrulelaw20_circles.l0 k l ((mvs (l.take i)).length : Int) (((mvs (l.take i)).filter fun m => decide (Lst (lf_get (lef l)) m.f0)).length : Int) (i : Int)) ((((mvs l).filter fun m => decide (Lst (lf_get (lef l)) m.f0)).length : Int), ((mvs l).length : Int)) := by
  intro d
  induction d with
  | zero =>
    intro i hd hi
    have e : l.take i = l := List.take_of_length_le (by omega)
    rw [e]
    refine (Tot.pure _).step (fun k => ?_)
    rw [ferrulelaw20_circles.l0, if_neg (by omega)]
  | succ d ih =>
    intro i hd hi
    have hlt : i < l.length := by omega
    have h1 := rdT_at hlt
    have ih := ih (i + 1) (by omega) (by omega)
    have htk : l.take (i + 1) = l.take i ++ [l[i]] := List.take_succ_eq_append_getElem hlt
    have hml : (mvs (l.take i)).length ≤ i := Nat.le_trans (List.length_filter_le _ _) (by rw [List.length_take]; omega)
    have hnl : ((mvs (l.take i)).filter fun m => decide (Lst (lf_get (lef l)) m.f0)).length ≤ i := Nat.le_trans (List.length_filter_le _ _) hml
    rw [htk] at ih
    by_cases c : l[i].f0 = l[i].f1
    · have e : mvs (l.take i ++ [l[i]]) = mvs (l.take i) := by
        unfold mvs
        rw [List.filter_append, List.filter_cons_of_neg (by simpa using c)]
        simp
      rw [e] at ih
      refine ih.step (fun k => ?_)
      rw [ferrulelaw20_circles.l0, if_pos (by omega), if_pos (by omega), h1, if_pos c, w64n _ (by omega)]
    · have e : mvs (l.take i ++ [l[i]]) = mvs (l.take i) ++ [l[i]] := by
        unfold mvs
        rw [List.filter_append, List.filter_cons_of_pos (by simpa using c)]
        simp
      have e2 : ((mvs (l.take i) ++ [l[i]]).filter fun m => decide (Lst (lf_get (lef l)) m.f0)).length = ((mvs (l.take i)).filter fun m => decide (Lst (lf_get (lef l)) m.f0)).length + (if Lst (lf_get (lef l)) l[i].f0 then 1 else 0) := by
        rw [List.filter_append, List.length_append]
        congr 1
        by_cases cc : Lst (lf_get (lef l)) l[i].f0
        · rw [if_pos cc, List.filter_cons_of_pos (by simpa using cc)]
          rfl
        · rw [if_neg cc, List.filter_cons_of_neg (by simpa using cc)]
          rfl
      rw [e, List.length_append, List.length_singleton, e2] at ih
      have hget := lef_get hR (List.getElem_mem hlt) c
      have h2 := circ_l1 hl hR (((mvs (l.take i)).length + 1 : Nat) : Int) (((mvs (l.take i)).filter fun m => decide (Lst (lf_get (lef l)) m.f0)).length) (by omega) i hlt ih l.length 0 l[i].f1 true (by omega) (Nat.zero_le _) (by rw [it_one]; exact hget) ⟨fun _ j y h0 hj _ => by omega, fun _ => rfl⟩ (fun j h0 hj => by omega)
      refine h2.step (fun k => ?_)
      rw [ferrulelaw20_circles.l0, if_pos (by omega), if_pos (by omega), h1, if_neg c, w64n _ (by omega)]
      rfl
theorem circles_tot : Tot (fun k => ferrulelaw20_circles.f k l) ((nc (Keys (lef l)) (lf_get (lef l)) : Int), ((lef l).length : Int)) := by
  have h := circ_l0 hl hR l.length 0 (by omega) (Nat.zero_le _)
  have e : nc (Keys (lef l)) (lf_get (lef l)) = ((mvs l).filter fun m => decide (Lst (lf_get (lef l)) m.f0)).length := by
    unfold nc
    rw [lef_keys, List.filter_map, List.length_map]
    rfl
  rw [e, lef_len]
  exact h.congr (fun k => rfl)
end
theorem one_tot : Tot (fun k => shuffle_Line.f k [⟨1, 2⟩] 3) ([⟨1, 2⟩], 0) := by
  have h : shuffle_Line.f 5 [⟨1, 2⟩] 3 = some ([⟨1, 2⟩], 0) := by rfl
  exact ⟨5, fun k hk => at_rounds (shuffle_Line.mono [⟨1, 2⟩] 3) hk h⟩
theorem few_end (spare : Int) (out : List S38) (n mv : Nat) (hn : n < 1000) (hm : mv < 1000) (hle : out.length ≤ mv + n) (hU : Used spare out ↔ 0 < n) :
    ∀ (d i : Nat) (u : Bool), d = out.length - i → i ≤ out.length → (u = true ↔ Used spare (out.take i)) → Tot (fun k => ferrulelaw20_ShuffleFew.l0 k spare out 0 (n : Int) (mv : Int) u (i : Int)) true := by
  intro d
  induction d with
  | zero =>
    intro i u hd hi hu
    have e : out.take i = out := List.take_of_length_le (by omega)
    rw [e] at hu
    have hun : (u == decide ((n : Int) > 0)) = true := by
      rw [beq_iff_eq]
      by_cases c : u = true
      · rw [c]
        have := hU.1 (hu.1 c)
        exact (decide_eq_true (by omega)).symm
      · have hf : u = false := by simpa using c
        rw [hf]
        refine (decide_eq_false fun h => c (hu.2 (hU.2 (by omega)))).symm
    refine (Tot.bind (b := fun k bt177 => if (0 : Int) = 0 then (if (out.length : Int) ≤ (wrap64 ((mv : Int) + (n : Int))) then (if (u == decide ((n : Int) > 0)) = true then (if bt177.2 = 0 then some ((bt177.1.length : Int) == 1) else some false) else some false) else some false) else some false) one_tot (Tot.pos rfl (Tot.pos (by rw [w64 (by omega) (by omega)]; omega) (Tot.pos hun (Tot.pos rfl (Tot.pure _)))))).step (fun k => ?_)
    rw [ferrulelaw20_ShuffleFew.l0, if_neg (by omega)]
  | succ d ih =>
    intro i u hd hi hu
    have hlt : i < out.length := by omega
    have h1 := rdT_at hlt
    have htk : out.take (i + 1) = out.take i ++ [out[i]] := List.take_succ_eq_append_getElem hlt
    by_cases c : u = true
    · have ih := ih (i + 1) true (by omega) (by omega) ⟨fun _ => by
        obtain ⟨m, hm, e⟩ := hu.1 c
        rw [htk]
        exact ⟨m, List.mem_append_left _ hm, e⟩, fun _ => rfl⟩
      refine ih.step (fun k => ?_)
      rw [ferrulelaw20_ShuffleFew.l0, if_pos (by omega), if_pos c, w64n _ (by omega)]
    · have ih := ih (i + 1) (out[i].f0 == spare) (by omega) (by omega) (by
        rw [htk, beq_iff_eq]
        constructor
        · exact fun e => ⟨out[i], List.mem_append_right _ (List.mem_singleton.2 rfl), e⟩
        · rintro ⟨m, hm, e⟩
          rcases List.mem_append.1 hm with hm | hm
          · exact absurd (hu.2 ⟨m, hm, e⟩) c
          · rw [← List.mem_singleton.1 hm]; exact e)
      refine ih.step (fun k => ?_)
      rw [ferrulelaw20_ShuffleFew.l0, if_pos (by omega), if_neg c, if_pos (by omega), h1, w64n _ (by omega)]
theorem ShuffleFew_pure (l : List S38) (spare : Int) : ∃ k, ferrulelaw20_ShuffleFew.f k l spare = some true := by
  refine Tot.get (f := fun k => ferrulelaw20_ShuffleFew.f k l spare) ?_
  have yes : Tot (fun k => ferrulelaw20_ShuffleFew.j0 k l spare true) true := (Tot.pure _).step (fun k => by rw [ferrulelaw20_ShuffleFew.j0, if_pos rfl])
  unfold ferrulelaw20_ShuffleFew.f
  by_cases c : (l.length : Int) < 100
  · obtain ⟨b, t, h⟩ := right_l0 l spare (by omega) l.length 0 (by omega) (Nat.zero_le _) (fun a _ ha => by omega)
    have hrt : Tot (fun k => ferrulelaw20_right.f k l spare) b := t.congr (fun k => rfl)
    refine Tot.bind (a := fun _ => ferrulelaw20_few.f l) (b := fun k t159 => if t159 = true then _ else _) (x := true) ((Tot.pure _).congr (fun k => by unfold ferrulelaw20_few.f; rw [decide_eq_true c])) (Tot.pos rfl ?_)
    refine Tot.bind (b := fun k t160 => ferrulelaw20_ShuffleFew.j0 k l spare (!t160)) hrt ?_
    cases b with
    | false => exact yes
    | true =>
      have hR := (h rfl).rgt
      obtain ⟨out, o1, o2, o3⟩ := line_tot (by omega) hR
      have hc := circles_tot (l := l) (spare := spare) (by omega) hR
      have hlen : (lef l).length ≤ l.length := by rw [lef_len]; exact List.length_filter_le _ _
      have hnc : nc (Keys (lef l)) (lf_get (lef l)) ≤ l.length := by
        unfold nc
        refine Nat.le_trans (List.length_filter_le _ _) ?_
        rw [lef_keys, List.length_map]
        exact List.length_filter_le _ _
      have hend := few_end spare out (nc (Keys (lef l)) (lf_get (lef l))) (lef l).length (by omega) (by omega) o2 o3 out.length 0 false (by omega) (Nat.zero_le _) (by simp [Used])
      have h2 := Tot.bind (b := fun k bt167 => (ferrulelaw20_circles.f k l).bind fun bt171 => ferrulelaw20_ShuffleFew.l0 k spare bt167.1 bt167.2 bt171.1 bt171.2 false 0) o1 (Tot.bind (b := fun k bt171 => ferrulelaw20_ShuffleFew.l0 k spare out 0 bt171.1 bt171.2 false 0) hc hend)
      refine h2.step (fun k => ?_)
      rw [ferrulelaw20_ShuffleFew.j0, if_neg (by decide)]
      show (if ([] : List S38).length + l.length < 8796093022208 then _ else none) = _
      rw [if_pos (by simp; omega)]
      rfl
  · refine Tot.bind (a := fun _ => ferrulelaw20_few.f l) (b := fun k t159 => if t159 = true then _ else _) (x := false) ((Tot.pure _).congr (fun k => by unfold ferrulelaw20_few.f; rw [decide_eq_false c])) (Tot.neg (by decide) yes)
end Go.Proofs.Ytafjbebbmfihaaa.P
