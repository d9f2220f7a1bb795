/- shuffle_Line.f ends: the number of moves, and whether the spare place is used; in plain Lean; no condition. -/
import Derived.Test.YtafjbebbmfihaaaSPure
namespace Go.Proofs.Ytafjbebbmfihaaa.P
open Go.RowKit Go.Proofs.YtafjbebbmfihaaaW.PrintWords Go.Proofs.YtafjbebbmfihaaaW.PrintLast Go.Proofs.YtafjbebbmfihaaaW.PrintMore
set_option linter.unusedVariables false
set_option linter.unusedSimpArgs false
set_option linter.unusedSectionVars false

/-- Is the spare place written? -/
def Used (spare : Int) (out : List S38) : Prop := ∃ m ∈ out, m.f0 = spare
/-- What stays true of what is left, and of the moves made. -/
structure Lf (order : List Int) (spare : Int) (left : List (Int × Int)) : Prop where
  kd : (Keys left).Nodup
  sub : ∀ x ∈ Keys left, x ∈ order
theorem Lf.del {order : List Int} {spare : Int} {left : List (Int × Int)} (h : Lf order spare left) (a : Int) : Lf order spare (lf_del left a) :=
  ⟨del_keys a h.kd, fun x hx => by
    obtain ⟨p, hp, e⟩ := List.mem_map.1 hx
    exact h.sub x (List.mem_map.2 ⟨p, (del_mem.1 hp).1, e⟩)⟩
theorem pass_is {order : List Int} {spare : Int} (hs : spare ∉ order) : ∀ (us : List Int) (left : List (Int × Int)) (out : List S38) (ag : Bool), (∀ a ∈ us, a ∈ order) → Lf order spare left →
    Lf order spare (shuffle_Line.pass us left out ag).1 ∧ (shuffle_Line.pass us left out ag).2.1.length + (shuffle_Line.pass us left out ag).1.length = out.length + left.length ∧
    (Used spare (shuffle_Line.pass us left out ag).2.1 ↔ Used spare out) ∧ nc order (lf_get (shuffle_Line.pass us left out ag).1) = nc order (lf_get left) ∧
    (shuffle_Line.pass us left out ag).1.length ≤ left.length ∧ ((shuffle_Line.pass us left out ag).2.2 = true → ag = true ∨ (shuffle_Line.pass us left out ag).1.length < left.length) ∧
    ((shuffle_Line.pass us left out ag).2.2 = false → (shuffle_Line.pass us left out ag).1 = left ∧ (shuffle_Line.pass us left out ag).2.1 = out ∧ ag = false ∧ ∀ a ∈ us, lf_get left a = none ∨ lf_read left a = true)
  | [], left, out, ag, hu, hL => by
    exact ⟨hL, rfl, Iff.rfl, rfl, Nat.le_refl _, fun h => .inl h, fun h => ⟨rfl, rfl, h, by simp⟩⟩
  | a :: us, left, out, ag, hu, hL => by
    rw [shuffle_Line.pass]
    have hu' : ∀ x ∈ us, x ∈ order := fun x hx => hu x (List.mem_cons_of_mem _ hx)
    cases h : lf_get left a with
    | none =>
      dsimp only
      obtain ⟨a1, a2, a3, a4, a5, a6, a7⟩ := pass_is hs us left out ag hu' hL
      refine ⟨a1, a2, a3, a4, a5, a6, fun hf => ?_⟩
      obtain ⟨b1, b2, b3, b4⟩ := a7 hf
      refine ⟨b1, b2, b3, fun x hx => ?_⟩
      rcases List.mem_cons.1 hx with rfl | hx
      · exact .inl h
      · exact b4 x hx
    | some b =>
      dsimp only
      by_cases c : lf_read left a = true
      · rw [if_pos c]
        obtain ⟨a1, a2, a3, a4, a5, a6, a7⟩ := pass_is hs us left out ag hu' hL
        refine ⟨a1, a2, a3, a4, a5, a6, fun hf => ?_⟩
        obtain ⟨b1, b2, b3, b4⟩ := a7 hf
        refine ⟨b1, b2, b3, fun x hx => ?_⟩
        rcases List.mem_cons.1 hx with rfl | hx
        · exact .inr c
        · exact b4 x hx
      · rw [if_neg c]
        have hdl := del_len hL.kd h
        obtain ⟨a1, a2, a3, a4, a5, a6, a7⟩ := pass_is hs us (lf_del left a) (out ++ [⟨a, b⟩]) true hu' (hL.del a)
        refine ⟨a1, ?_, ?_, ?_, by omega, fun _ => .inr (by omega), fun hf => ?_⟩
        · simp only [List.length_append, List.length_singleton] at a2
          omega
        · rw [a3]
          constructor
          · rintro ⟨m, hm, e⟩
            rcases List.mem_append.1 hm with hm | hm
            · exact ⟨m, hm, e⟩
            · rw [List.mem_singleton.1 hm] at e
              have e : a = spare := e
              exact absurd (e ▸ hu a List.mem_cons_self) hs
          · rintro ⟨m, hm, e⟩
            exact ⟨m, List.mem_append_left _ hm, e⟩
        · rw [a4, nc_del order hL.kd c]
        · obtain ⟨_, _, b3, _⟩ := a7 hf
          cases b3
/-- free ends, at rest. -/
theorem free_is {order : List Int} {spare : Int} (hs : spare ∉ order) : ∀ (d : Nat) (left : List (Int × Int)) (out : List S38), left.length < d → Lf order spare left →
    ∃ l2 o2, Tot (fun k => shuffle_Line.free k order left out) (l2, o2) ∧ Lf order spare l2 ∧ o2.length + l2.length = out.length + left.length ∧ (Used spare o2 ↔ Used spare out) ∧ nc order (lf_get l2) = nc order (lf_get left) ∧ ∀ a ∈ Keys l2, lf_read l2 a = true
  | 0, left, out, hd, _ => by omega
  | d + 1, left, out, hd, hL => by
    obtain ⟨a1, a2, a3, a4, a5, a6, a7⟩ := pass_is hs order left out false (fun _ h => h) hL
    by_cases c : (shuffle_Line.pass order left out false).2.2 = true
    · have hlt := (a6 c).resolve_left (by decide)
      obtain ⟨l2, o2, t1, t2, t3, t4, t5, t6⟩ := free_is hs d (shuffle_Line.pass order left out false).1 (shuffle_Line.pass order left out false).2.1 (by omega) a1
      refine ⟨l2, o2, t1.step (fun k => ?_), t2, by omega, t4.trans a3, t5.trans a4, t6⟩
      rw [shuffle_Line.free]
      simp only [c, if_true]
    · have cf : (shuffle_Line.pass order left out false).2.2 = false := by simpa using c
      obtain ⟨b1, b2, _, b4⟩ := a7 cf
      refine ⟨left, out, (Tot.pure _).step (fun k => ?_), hL, rfl, Iff.rfl, rfl, fun x hx => ?_⟩
      · rw [shuffle_Line.free]
        simp only [c, b1, b2]
        simp [cf]
      · rcases b4 x (hL.sub x hx) with h | h
        · exact absurd hx (lf_get_none.1 h)
        · exact h
/-- The circles, each with one move more. -/
theorem circ_is {order : List Int} {spare : Int} (hs : spare ∉ order) : ∀ (us : List Int) (left : List (Int × Int)) (out : List S38), (∀ a ∈ us, a ∈ order) → Lf order spare left → (∀ a ∈ Keys left, lf_read left a = true) →
    ∃ o2, Tot (fun k => shuffle_Line.circ k spare order us left out) o2 ∧ o2.length ≤ out.length + left.length + nc order (lf_get left) ∧ (Used spare o2 ↔ Used spare out ∨ ∃ a ∈ us, lf_get left a ≠ none)
  | [], left, out, hu, hL, hr => ⟨out, (Tot.pure _).congr (fun k => by rw [shuffle_Line.circ]), by omega, by simp⟩
  | a :: us, left, out, hu, hL, hr => by
    have hu' : ∀ x ∈ us, x ∈ order := fun x hx => hu x (List.mem_cons_of_mem _ hx)
    cases h : lf_get left a with
    | none =>
      obtain ⟨o2, t1, t2, t3⟩ := circ_is hs us left out hu' hL hr
      refine ⟨o2, t1.congr (fun k => by rw [shuffle_Line.circ, h]), t2, ?_⟩
      rw [t3]
      constructor
      · rintro (h' | ⟨x, hx, hn⟩)
        · exact .inl h'
        · exact .inr ⟨x, List.mem_cons_of_mem _ hx, hn⟩
      · rintro (h' | ⟨x, hx, hn⟩)
        · exact .inl h'
        · rcases List.mem_cons.1 hx with rfl | hx
          · exact absurd h hn
          · exact .inr ⟨x, hx, hn⟩
    | some b =>
      have hao := hu a List.mem_cons_self
      have has : a ≠ spare := fun e => hs (e ▸ hao)
      have hsk : spare ∉ Keys left := fun hk => hs (hL.sub _ hk)
      have hLt : Lf order spare (turned a spare left) := ⟨by rw [turned_keys]; exact hL.kd, fun x hx => by rw [turned_keys] at hx; exact hL.sub x hx⟩
      have hlen : (turned a spare left).length = left.length := by simp [turned]
      have hnc := nc_turned hL.kd hsk hL.sub (rest_circle hL.kd hr (lf_get_key h)) has
      obtain ⟨l2, o2, f1, f2, f3, f4, f5, f6⟩ := free_is hs _ (turned a spare left) (out ++ [⟨spare, a⟩]) (Nat.lt_succ_self _) hLt
      obtain ⟨o3, t1, t2, t3⟩ := circ_is hs us l2 o2 hu' f2 f6
      refine ⟨o3, ?_, ?_, ?_⟩
      · refine (Tot.bind (b := fun k (r : List (Int × Int) × List S38) => shuffle_Line.circ k spare order us r.1 r.2) f1 t1).congr (fun k => ?_)
        rw [shuffle_Line.circ, h]
        rfl
      · simp only [List.length_append, List.length_singleton] at f3
        omega
      · constructor
        · intro _
          exact .inr ⟨a, List.mem_cons_self, by rw [h]; simp⟩
        · intro _
          exact t3.2 (.inl (f4.2 ⟨⟨spare, a⟩, by simp, rfl⟩))
end Go.Proofs.Ytafjbebbmfihaaa.P
