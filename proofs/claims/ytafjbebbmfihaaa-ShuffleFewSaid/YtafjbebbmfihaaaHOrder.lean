/- graph.Order does what graph_Order.f says; no condition. -/
import Derived.Test.YtafjbebbmfihaaaHWalk
import Derived.BigRegion
import Derived.ChangeAlike
import Derived.IntWalk
namespace Go.Proofs.Ytafjbebbmfihaaa.P
open Go.RowKit Go.Proofs.YtafjbebbmfihaaaW.PrintWords Go.Proofs.YtafjbebbmfihaaaW.PrintLast Go.Proofs.YtafjbebbmfihaaaW.PrintMore
set_option linter.unusedSectionVars false
set_option linter.unusedVariables false
set_option linter.unusedSimpArgs false
attribute [local go_sem] max2_int min2_int max_two min_two

/-- A row of numbers is told by its own block alone. -/
theorem R_self {e base : Nat} {w : World} {ok : Nat → Prop} {v : Value} {xs : List Int} (h : Kd.R (Kd.int .i64) e w base ok v xs) : Kd.R (Kd.int .i64) e w base (fun k => some k = v.ownBlock) v xs :=
  ⟨fun _ hk => hk.symm, h.2.imp_ (fun _ _ hp => hp)⟩
theorem cell_of_blk {w : World} {b : Nat} {v : Value} {t : TypeId} (h : w.heap[b]? = some (.cells #[v] t (0, 0))) : w.cell? ⟨b, 0, none⟩ = some v ∧ w.frozen? ⟨b, 0, none⟩ = false := by
  constructor
  · unfold World.cell?
    dsimp only
    rw [h]
    rfl
  · unfold World.frozen?
    dsimp only
    rw [h]
    rfl
/-- What was gathered is the slice in the variable bc. -/
def LO (w0 : World) (bc : Nat) : List Int → World → (Nat → Prop) → Prop := fun out w F =>
  ∃ v, w.heap[bc]? = some (.cells #[v] 27 (0, 0)) ∧ Kd.R (Kd.int .i64) 3 w w0.heap.size (fun k => k ≠ bc) v out ∧ w0.heap.size ≤ bc ∧ ∀ b, F b ↔ (b = bc ∨ some b = v.ownBlock)
theorem LO_move {w0 : World} {bc : Nat} {out : List Int} {w w' : World} {F : Nat → Prop} (h : LO w0 bc out w F) (hm : ∀ b, F b → w'.heap[b]? = w.heap[b]?) : LO w0 bc out w' F := by
  obtain ⟨v, h1, h2, h3, h4⟩ := h
  refine ⟨v, (hm bc ((h4 bc).2 (.inl rfl))).trans h1, ?_, h3, h4⟩
  refine Kd.R_mono (Kd.R_step (R_self (Kd.R_bound h2)) (fun k hk _ => hm k ((h4 k).2 (.inr hk)))) (fun k hk e => ?_)
  have := (Kd.R_bound h2).1 k hk.symm
  exact this.1 e
theorem LO_lt {w0 : World} {bc : Nat} {out : List Int} {w : World} {F : Nat → Prop} (h : LO w0 bc out w F) : ∀ b, F b → b < w.heap.size := by
  obtain ⟨v, h1, h2, h3, h4⟩ := h
  intro b hb
  rcases (h4 b).1 hb with rfl | e
  · exact (Array.getElem?_eq_some_iff.1 h1).1
  · exact ((Kd.R_bound h2).1 b e.symm).2.2.1
def LOPost (w0 : World) (bc : Nat) (w : World) (F : Nat → Prop) (out : List Int) (e : Ending) (w' : World) : Prop :=
  e = .returned (.tuple #[]) ∧ Below w0.heap.size w0 w' ∧ Kept w w' F ∧ ∃ F', LO w0 bc out w' F' ∧ ∀ b, F' b → F b ∨ w.heap.size ≤ b
theorem LO_push {w0 : World} {bc : Nat} {w w1 : World} {F : Nat → Prop} {v v1 : Value} {out' : List Int} (h1 : w.heap[bc]? = some (.cells #[v] 27 (0, 0))) (h3 : w0.heap.size ≤ bc) (h4 : ∀ b, F b ↔ (b = bc ∨ some b = v.ownBlock))
    (hr1 : Kd.R (Kd.int .i64) 3 w1 w0.heap.size (fun k => k ≠ bc) v1 out') (hb1 : Below w0.heap.size w0 w1) (hg1 : w.grownBy w1 v.ownBlock) (hat : v1.ownBlock = v.ownBlock ∨ ∃ b, v1.ownBlock = some b ∧ w.heap.size ≤ b) (hne : some bc ≠ v.ownBlock) :
    LOPost w0 bc w F out' (.returned (.tuple #[])) (w1.setCell ⟨bc, 0, none⟩ v1) := by
  have hlt : bc < w.heap.size := (Array.getElem?_eq_some_iff.1 h1).1
  have hbc := (hg1.block bc hlt hne).trans h1
  have hk1 : Kept w w1 F := Kept.of_grown hg1 (Kept.refl _ _) (fun k e => .inl ((h4 k).2 (.inr e.symm)))
  refine ⟨rfl, hb1.setCell h3 _, hk1.setCell (.inl ((h4 bc).2 (.inl rfl))) _, fun b => b = bc ∨ some b = v1.ownBlock, ⟨v1, ?_, Kd.R_far (p := ⟨bc, 0, none⟩) hr1 (fun k hk => hk) _, h3, fun b => Iff.rfl⟩, ?_⟩
  · have := heap_setCell_same w1 bc 0 #[v] 27 v1 hbc
    simpa using this
  · rintro b (rfl | e)
    · exact .inl ((h4 b).2 (.inl rfl))
    · rcases hat with h | ⟨b', h, hb'⟩
      · exact .inl ((h4 b).2 (.inr (e.trans h)))
      · rw [h] at e
        injection e with e
        exact .inr (e ▸ hb')
set_option maxHeartbeats 1000000 in
set_option maxRecDepth 100000 in
theorem order1_calls (w0 : World) (bc : Nat) (out : List Int) (w : World) (F : Nat → Prop) (i : Int) (ho : out.length < 1000000) (hl : LO w0 bc out w F) (hb : Below w0.heap.size w0 w) :
    Calls Try.prog 32 #[.int .i64 i, ptr bc] w (LOPost w0 bc w F (out ++ [i])) := by
  obtain ⟨v, h1, h2, h3, h4⟩ := hl
  obtain ⟨hcell, _⟩ := cell_of_blk h1
  obtain ⟨A, c, rfl⟩ := Kd.R_slice h2
  have H1 := Aside0.mk h1
  have H2 := Aside0.mk h2
  have H3 := Aside0.mk h3
  have H4 := Aside0.mk h4
  have HB := Aside0.mk hb
  have HO := Aside0.mk ho
  clear h1 h2 h3 h4 hb ho
  go_enter Try.func32, Try.ntmps32
  go_wp2_with ((with_reducible refine gate_builtin (b := .append) (xs := #[.tmp 3, .tmp 5]) rfl ?_); at_builtin; refine Kd.R_append (Kd.int .i64) (w0 := w0) w0.heap.size rfl (.tmp 3) (.tmp 5) 27 3 (.int .i64 0) 8 rfl Try.underlying27 info3 rfl (by decide) (by omega) (.slice A out.length c) out i [.int .i64 i] (fun k => k ≠ bc) (fun _ => False) rfl rfl rfl (fun _ hk => hk.elim) ?aF H2.out HB.out ?aS ?aL ?_; (case aF => (intro k hk e; have := (Array.getElem?_eq_some_iff.1 H1.out).1; omega)); (case aS => exact HB.out.size); (case aL => have := HO.out; omega); intro v1 w1 hr1 hb1 hg1 hat; have hne : some bc ≠ (Value.slice A out.length c).ownBlock := (fun e => (Kd.R_bound H2.out).1 bc e.symm |>.1 rfl); obtain ⟨hc1, hf1⟩ := cell_of_blk (t := 27) ((hg1.block bc (Array.getElem?_eq_some_iff.1 H1.out).1 hne).trans H1.out); obtain ⟨A1, c1, hv1⟩ := Kd.R_slice hr1; subst hv1; have HR1 := Aside0.mk hr1; have HB1 := Aside0.mk hb1; have HG1 := Aside0.mk hg1; have HAT := Aside0.mk hat; have HNE := Aside0.mk hne; clear hr1 hb1 hg1 hat hne)
  go_end0
  have hlen : (Value.slice A1 (out.length + 1) c1) = .slice A1 (out ++ [i]).length c1 := by simp
  rw [hlen]
  exact LO_push H1.out H3.out H4.out HR1.out HB1.out HG1.out HAT.out HNE.out
theorem enters32 (args : Array Value) (w : World) : (callFunc 32 args).run Try.prog w = .ok (.enter 32 args) w := by
  go_simp
theorem order_ok (w0 : World) (bc : Nat) : LeftOK w0 32 #[ptr bc] (LO w0 bc) where
  move := fun _ _ _ h _ hm => LO_move h hm
  lt := fun _ _ _ h => LO_lt h
  enters := enters32
  call := fun out w F i ho hl hb => (order1_calls w0 bc out w F i ho hl hb).mono fun _ _ h => h

theorem cell_set_ne {w : World} {p a : Addr} {u v : Value} (h : w.cell? a = some v) (hne : a.block ≠ p.block ∨ a.off ≠ p.off) : (w.setCell p u).cell? a = some v := by
  unfold World.cell? at *
  unfold World.setCell
  simp only [Array.getElem?_modify]
  by_cases c : p.block = a.block
  · rw [if_pos c]
    cases ho : w.heap[a.block]? with
    | none => rw [ho] at h; cases h
    | some o =>
      rw [ho] at h
      cases o <;> try cases h
      rename_i cs e fr
      simp only [Option.map_some]
      by_cases ca : a.spot.isSome = true
      · dsimp only at h
        rw [if_pos ca] at h; cases h
      · dsimp only at h
        rw [if_neg ca] at h ⊢
        split
        · exact h
        · rw [Array.getElem?_setIfInBounds, if_neg]
          · exact h
          · rcases hne with hne | hne
            · exact absurd c.symm hne
            · exact Ne.symm hne
  · rw [if_neg c]
    exact h
/-- The first i and the last i turned round. -/
def rv (l : List Int) (i : Nat) : List Int := (List.range l.length).map fun j => if j < i ∨ l.length - i ≤ j then l.getD (l.length - 1 - j) 0 else l.getD j 0
theorem rv_length (l : List Int) (i : Nat) : (rv l i).length = l.length := by simp [rv]
theorem rv_zero (l : List Int) : rv l 0 = l := by
  apply List.ext_getElem
  · simp [rv]
  · intro j h1 h2
    simp only [rv, List.getElem_map, List.getElem_range]
    rw [if_neg (by omega)]
    simp [h2]
theorem rv_half (l : List Int) : rv l (l.length / 2) = l.reverse := by
  apply List.ext_getElem
  · simp [rv]
  · intro j h1 h2
    have hj : j < l.length := by simpa [rv] using h1
    simp only [rv, List.getElem_map, List.getElem_range, List.getElem_reverse]
    have h3 : l.length - 1 - j < l.length := by omega
    split
    · simp [h3]
    · have e : j = l.length - 1 - j := by omega
      have h4 : l.getD j 0 = l[j] := by simp [hj]
      rw [h4]
      congr 1
theorem rd_rv (l : List Int) (i j : Nat) (hj : j < l.length) : rd (rv l i) (j : Int) = if j < i ∨ l.length - i ≤ j then l.getD (l.length - 1 - j) 0 else l.getD j 0 := by
  have h1 : j < (rv l i).length := by rw [rv_length]; exact hj
  simp only [rd, Int.toNat_natCast]
  rw [List.getD_eq_getElem?_getD, List.getElem?_eq_getElem h1]
  simp [rv]
theorem rv_step (l : List Int) (i : Nat) (hi : i < l.length / 2) : ((rv l i).set i (rd (rv l i) ((l.length - 1 - i : Nat) : Int))).set (l.length - 1 - i) (rd (rv l i) (i : Int)) = rv l (i + 1) := by
  rw [rd_rv l i _ (by omega), rd_rv l i i (by omega), if_neg (by omega), if_neg (by omega)]
  apply List.ext_getElem
  · simp [rv]
  · intro j h1 h2
    have hj : j < l.length := by simpa [rv] using h2
    simp only [rv, List.getElem_set, List.getElem_map, List.getElem_range]
    by_cases c1 : l.length - 1 - i = j
    · rw [if_pos c1, if_pos (by omega), show l.length - 1 - j = i from by omega]
    · rw [if_neg c1]
      by_cases c2 : i = j
      · subst c2
        rw [if_pos rfl, if_pos (by omega)]
      · rw [if_neg c2]
        by_cases c3 : j < i ∨ l.length - i ≤ j
        · rw [if_pos c3, if_pos (by omega)]
        · rw [if_neg c3, if_neg (by omega)]

/-- The exchange of one round. -/
theorem rv_world {w wr : World} {g c j : Nat} {out : List Int} {x y : Int} (hj : j < out.length / 2) (hbg : w.heap.size ≠ g) (hB : Below w.heap.size w wr) (hV : wr.heap[w.heap.size]? = some (.cells #[.slice (some ⟨g, 0, none⟩) out.length c] 27 (0, 0)))
    (hx : x = rd (rv out j) (j : Int)) (hy : y = rd (rv out j) ((out.length : Int) - 1 - j)) (hX : Kd.R (Kd.int .i64) 3 wr w.heap.size (fun k => k ≠ w.heap.size) (.slice (some ⟨g, 0, none⟩) out.length c) (rv out j)) :
    Kd.R (Kd.int .i64) 3 ((wr.setCell ⟨g, j, none⟩ (.int .i64 y)).setCell ⟨g, out.length - 1 - j, none⟩ (.int .i64 x)) w.heap.size (fun k => k ≠ w.heap.size) (.slice (some ⟨g, 0, none⟩) out.length c) (rv out (j + 1)) ∧
      Below w.heap.size w ((wr.setCell ⟨g, j, none⟩ (.int .i64 y)).setCell ⟨g, out.length - 1 - j, none⟩ (.int .i64 x)) ∧
      ((wr.setCell ⟨g, j, none⟩ (.int .i64 y)).setCell ⟨g, out.length - 1 - j, none⟩ (.int .i64 x)).heap[w.heap.size]? = some (.cells #[.slice (some ⟨g, 0, none⟩) out.length c] 27 (0, 0)) := by
  have hg := (Kd.R_bound hX).1 g rfl
  have h1 := Kd.R_putg hX (j : Int) y
  rw [Int.toNat_natCast] at h1
  have h2 := Kd.R_putg h1.1 ((out.length : Int) - 1 - j) x
  rw [show ((out.length : Int) - 1 - j).toNat = out.length - 1 - j from by omega] at h2
  refine ⟨?_, ?_, ?_⟩
  · have e := rv_step out j hj
    rw [show ((out.length - 1 - j : Nat) : Int) = (out.length : Int) - 1 - j from by omega, ← hx, ← hy] at e
    rw [← e]
    exact h2.1
  · exact (hB.setCell hg.2.1 _).setCell hg.2.1 _
  · rw [Below.heap_setCell _ _ _ _ hbg, Below.heap_setCell _ _ _ _ hbg]
    exact hV
theorem LO_start (w : World) : LO w w.heap.size [] (w.alloc (.cells #[.slice none 0 0] 27)) (fun b => b = w.heap.size) :=
  ⟨.slice none 0 0, heap_alloc_new w _, Kd.R_nil _ _ _ _ _, Nat.le_refl _, fun b => by simp [Value.ownBlock]⟩

set_option maxHeartbeats 4000000 in
set_option maxRecDepth 100000 in
theorem graph_Order.calls (k : Nat) (a0 : Int) (A1 : Option Addr) (c1 : Nat) (l1 : List (List Int)) (r : List Int) (w : World) (hr1 : Kd.C (Kd.slice 3 (Kd.int .i64)) w A1 l1.length l1) (hc1 : l1.length ≤ c1) (h : graph_Order.f k a0 l1 = some r) :
    Calls Try.prog 19 #[.int .i64 a0, .slice A1 l1.length c1] w fun e w' => ∃ v0_ : Value, e = .returned (v0_) ∧ Kd.R (Kd.int .i64) 3 w' w.heap.size (fun _ => True) v0_ r ∧ Below w.heap.size w w' := by
  unfold graph_Order.f at h
  obtain ⟨st, hw, h⟩ := Option.bind_eq_some_iff.1 h
  have hmf : ∀ (fn : Fn) (first cap : Array Value) (w : World), (Instr.makeFunc fn first cap).run Try.prog w = .ok (.func fn first cap) w := fun _ _ _ _ => rfl
  by_cases hlen : st.2.length < 1000000
  case neg => rw [if_neg hlen] at h; cases h
  rw [if_pos hlen] at h
  have H := Aside0.mk h
  have HW := Aside0.mk hw
  have HC := Aside0.mk hr1
  have HC1 := Aside0.mk hc1
  clear h hw hr1 hc1
  go_enter Try.func19, Try.ntmps19
  go_wp2_with (go_at_call 25; refine (walk_calls w a0 A1 c1 l1 32 #[ptr w.heap.size] (LO w w.heap.size) (order_ok w w.heap.size) HC.out HC1.out k _ (fun b => b = w.heap.size) st.1 st.2 (below_alloc (Below.refl _ _) _) (LO_start w) (fun b hb => by omega) HW.out).mono ?_; rintro e w2 ⟨bm, F', rfl, hM, hbm, ⟨v, hv1, hv2, hv3, hv4⟩, hB, hK, _, _⟩; obtain ⟨A, c, hv⟩ := Kd.R_slice hv2; subst hv; have HB := Aside0.mk hB; have HV1 := Aside0.mk hv1; have HV2 := Aside0.mk hv2; have hcell := (cell_of_blk hv1).1; clear hv1 hv2 hv3 hv4 hM hbm hB hK)
  have HX : Aside0 (Kd.R (Kd.int .i64) 3 w2 w.heap.size (fun k => k ≠ w.heap.size) (.slice A st.2.length c) (rv st.2 0)) := ⟨by rw [rv_zero]; exact HV2.out⟩
  clear HV2 hcell
  go_loopw [14] (fun v14 wr => ∃ j : Nat, v14 = .int .i64 (j : Int) ∧ Aside0 (j ≤ st.2.length / 2) ∧ Aside0 (Kd.R (Kd.int .i64) 3 wr w.heap.size (fun k => k ≠ w.heap.size) (.slice A st.2.length c) (rv st.2 j)) ∧ Aside0 (Below w.heap.size w wr) ∧ Aside0 (wr.heap[w.heap.size]? = some (.cells #[.slice A st.2.length c] 27 (0, 0)))) (fun v14 _ => st.2.length - (intOf v14).toNat)
  case atStart => exact ⟨0, rfl, ⟨Nat.zero_le _⟩, HX, HB, HV1⟩
  case round =>
    clear HX HB HV1
    obtain ⟨j, rfl, hj, HX, HB, HV⟩ := hrel
    have hcell := (cell_of_blk HV.out).1
    have hj6 : (j : Int) + 1 ≤ 1000001 := by have := hj.out; omega
    by_cases hlt : j < st.2.length / 2
    · have hlr := rv_length st.2 j
      obtain ⟨g, cap, e1, hg1, hg2, cells, hcells⟩ := Kd.R_form HX.out (by omega)
      rw [hlr] at e1
      injection e1 with e1 _ e2
      subst e1
      subst e2
      obtain ⟨b, hb⟩ : ∃ b : Int, b = (st.2.length : Int) - 1 - j := ⟨_, rfl⟩
      obtain ⟨hca, hfa⟩ := Kd.R_celln (0 : Int) HX.out (j : Int) (by omega) (by omega)
      obtain ⟨hcb, hfb⟩ := Kd.R_celln (0 : Int) HX.out ((st.2.length : Int) - 1 - j) (by omega) (by omega)
      rw [Int.toNat_natCast] at hca hfa
      rw [show ((st.2.length : Int) - 1 - j).toNat = st.2.length - 1 - j from by omega] at hcb hfb
      have hjm : (j : Int) < (st.2.length : Int) / 2 := by omega
      have hj1 : (j : Int) < (st.2.length : Int) := by omega
      have hj2 : (0 : Int) ≤ (st.2.length : Int) - 1 - j := by omega
      have hj3 : (st.2.length : Int) - 1 - j < (st.2.length : Int) := by omega
      have hw1 : IntKind.i64.wrap ((st.2.length : Int) - 1) = (st.2.length : Int) - 1 := IntWalk.i64_in _ (by omega)
      have hw2 : IntKind.i64.wrap ((st.2.length : Int) - 1 - j) = (st.2.length : Int) - 1 - j := IntWalk.i64_in _ (by omega)
      have hne : ¬ j = st.2.length - 1 - j := by omega
      have hne2 : ¬ st.2.length - 1 - j = j := by omega
      have hj4 : (j : Int) ≤ (st.2.length : Int) - 1 := by omega
      have hlt0 := hlt
      clear hcells hlr hg1 hg2 hlt hb
      have hgb : w.heap.size ≠ g := (Kd.R_bound HX.out).1 g rfl |>.1.symm
      obtain ⟨x, hx⟩ : ∃ x, x = rd (rv st.2 j) (j : Int) := ⟨_, rfl⟩
      obtain ⟨y, hy⟩ : ∃ y, y = rd (rv st.2 j) ((st.2.length : Int) - 1 - j) := ⟨_, rfl⟩
      replace hca : wr.cell? ⟨g, j, none⟩ = some (.int .i64 x) := by rw [hx]; exact hca
      replace hcb : wr.cell? ⟨g, st.2.length - 1 - j, none⟩ = some (.int .i64 y) := by rw [hy]; exact hcb
      have HX2 := Aside0.mk hx
      have HY2 := Aside0.mk hy
      have HLT := Aside0.mk hlt0
      have HGB := Aside0.mk hgb
      clear hx hy hlt0
      go_wp2_with fail
      refine start_ (n := 24) (S := fun w' => w'.cell? ⟨w.heap.size, 0, none⟩ = some (.slice (some ⟨g, 0, none⟩) st.2.length c) ∧ w'.cell? ⟨g, st.2.length - 1 - j, none⟩ = some (.int .i64 y)) (ds := [23]) #[false, false, false, false, false, false, false, false, false, false, false, false, false, false, false, false, false, false, false, false, false, false, false, false] (by kernel_rfl) rfl rfl ⟨hcell, hcb⟩ (fun hHeld => ?_)
      refine pure_ (i := 1) (N := some 18) (v := ?_) (a' := ?_) #[false, true, false, false, false, false, false, false, false, false, false, false, false, false, false, false, false, false, false, false, false, false, false, false] rfl rfl (by kernel_rfl) (fun _ _ _ h => h) (Or.inl ⟨by rfl, ?_⟩) ?_ ?_
      rotate_left
      · intro w'
        go_simp
        with_reducible rfl
      rotate_left
      · simp only [Act.put, List.setIfInBounds_toArray, List.set_cons_zero, List.set_cons_succ, i64_w, i32_w]
        rfl
      refine pure_ (i := 6) (N := some 23) (v := ?_) (a' := ?_) #[false, true, false, false, false, false, true, false, false, false, false, false, false, false, false, false, false, false, false, false, false, false, false, false] rfl rfl (by kernel_rfl) (fun _ _ _ h => h) (Or.inl ⟨by rfl, ?_⟩) ?_ ?_
      rotate_left
      · intro w'
        go_simp
        with_reducible rfl
      rotate_left
      · simp only [Act.put, List.setIfInBounds_toArray, List.set_cons_zero, List.set_cons_succ, i64_w, i32_w]
        rfl
      refine pure_ (i := 12) (N := some 29) (v := ?_) (a' := ?_) #[false, true, false, false, false, false, true, false, false, false, false, false, true, false, false, false, false, false, false, false, false, false, false, false] rfl rfl (by kernel_rfl) (fun _ _ _ h => h) (Or.inl ⟨by rfl, ?_⟩) ?_ ?_
      rotate_left
      · intro w'
        go_simp
        with_reducible rfl
      rotate_left
      · simp only [Act.put, List.setIfInBounds_toArray, List.set_cons_zero, List.set_cons_succ, i64_w, i32_w]
        rfl
      refine pure_ (i := 17) (N := some 34) (v := ?_) (a' := ?_) #[false, true, false, false, false, false, true, false, false, false, false, false, true, false, false, false, false, true, false, false, false, false, false, false] rfl rfl (by kernel_rfl) (fun _ _ _ h => h) (Or.inl ⟨by rfl, ?_⟩) ?_ ?_
      rotate_left
      · intro w'
        go_simp
        with_reducible rfl
      rotate_left
      · simp only [Act.put, List.setIfInBounds_toArray, List.set_cons_zero, List.set_cons_succ, i64_w, i32_w]
        rfl
      refine take_ (i := 0) (N := some 17) (v := ?_) (a' := ?_) #[true, true, false, false, false, false, true, false, false, false, false, false, true, false, false, false, false, true, false, false, false, false, false, false] rfl rfl (by kernel_rfl) (fun _ _ _ h => h) (Or.inl ⟨by rfl, ?_⟩) hHeld ?_ ?_
      rotate_left
      · rintro w' ⟨s0, s1⟩
        go_simp
        with_reducible rfl
      rotate_left
      · simp only [Act.put, List.setIfInBounds_toArray, List.set_cons_zero, List.set_cons_succ, i64_w, i32_w]
        rfl
      refine take_ (i := 2) (N := some 19) (v := ?_) (a' := ?_) #[true, true, true, false, false, false, true, false, false, false, false, false, true, false, false, false, false, true, false, false, false, false, false, false] rfl rfl (by kernel_rfl) (fun _ _ _ h => h) (Or.inl ⟨by rfl, ?_⟩) hHeld ?_ ?_
      rotate_left
      · rintro w' ⟨s0, s1⟩
        go_simp
        with_reducible rfl
      rotate_left
      · simp only [Act.put, List.setIfInBounds_toArray, List.set_cons_zero, List.set_cons_succ, i64_w, i32_w]
        rfl
      refine take_ (i := 3) (N := some 20) (v := ?_) (a' := ?_) #[true, true, true, true, false, false, true, false, false, false, false, false, true, false, false, false, false, true, false, false, false, false, false, false] rfl rfl (by kernel_rfl) (fun _ _ _ h => h) (Or.inl ⟨by rfl, ?_⟩) hHeld ?_ ?_
      rotate_left
      · rintro w' ⟨s0, s1⟩
        go_simp
        with_reducible rfl
      rotate_left
      · simp only [Act.put, List.setIfInBounds_toArray, List.set_cons_zero, List.set_cons_succ, i64_w, i32_w]
        rfl
      refine pure_ (i := 4) (N := some 21) (v := ?_) (a' := ?_) #[true, true, true, true, true, false, true, false, false, false, false, false, true, false, false, false, false, true, false, false, false, false, false, false] rfl rfl (by kernel_rfl) (fun _ _ _ h => h) (Or.inl ⟨by rfl, ?_⟩) ?_ ?_
      rotate_left
      · intro w'
        go_simp
        with_reducible rfl
      rotate_left
      · simp only [Act.put, List.setIfInBounds_toArray, List.set_cons_zero, List.set_cons_succ, i64_w, i32_w]
        rfl
      refine pure_ (i := 5) (N := some 22) (v := ?_) (a' := ?_) #[true, true, true, true, true, true, true, false, false, false, false, false, true, false, false, false, false, true, false, false, false, false, false, false] rfl rfl (by kernel_rfl) (fun _ _ _ h => h) (Or.inl ⟨by rfl, ?_⟩) ?_ ?_
      rotate_left
      · intro w'
        go_simp
        with_reducible rfl
      rotate_left
      · simp only [Act.put, List.setIfInBounds_toArray, List.set_cons_zero, List.set_cons_succ, i64_w, i32_w]
        rfl
      refine pure_ (i := 7) (N := some 24) (v := ?_) (a' := ?_) #[true, true, true, true, true, true, true, true, false, false, false, false, true, false, false, false, false, true, false, false, false, false, false, false] rfl rfl (by kernel_rfl) (fun _ _ _ h => h) (Or.inl ⟨by rfl, ?_⟩) ?_ ?_
      rotate_left
      · intro w'
        go_simp
        with_reducible rfl
      rotate_left
      · simp only [Act.put, List.setIfInBounds_toArray, List.set_cons_zero, List.set_cons_succ, i64_w, i32_w]
        rfl
      refine take_ (i := 8) (N := some 25) (v := ?_) (a' := ?_) #[true, true, true, true, true, true, true, true, true, false, false, false, true, false, false, false, false, true, false, false, false, false, false, false] rfl rfl (by kernel_rfl) (fun _ _ _ h => h) (Or.inl ⟨by rfl, ?_⟩) hHeld ?_ ?_
      rotate_left
      · rintro w' ⟨s0, s1⟩
        go_simp
        with_reducible rfl
      rotate_left
      · simp only [Act.put, List.setIfInBounds_toArray, List.set_cons_zero, List.set_cons_succ, i64_w, i32_w]
        rfl
      refine take_ (i := 9) (N := some 26) (v := ?_) (a' := ?_) #[true, true, true, true, true, true, true, true, true, true, false, false, true, false, false, false, false, true, false, false, false, false, false, false] rfl rfl (by kernel_rfl) (fun _ _ _ h => h) (Or.inl ⟨by rfl, ?_⟩) hHeld ?_ ?_
      rotate_left
      · rintro w' ⟨s0, s1⟩
        go_simp
        with_reducible rfl
      rotate_left
      · simp only [Act.put, List.setIfInBounds_toArray, List.set_cons_zero, List.set_cons_succ, i64_w, i32_w]
        rfl
      refine pure_ (i := 10) (N := some 27) (v := ?_) (a' := ?_) #[true, true, true, true, true, true, true, true, true, true, true, false, true, false, false, false, false, true, false, false, false, false, false, false] rfl rfl (by kernel_rfl) (fun _ _ _ h => h) (Or.inl ⟨by rfl, ?_⟩) ?_ ?_
      rotate_left
      · intro w'
        go_simp
        with_reducible rfl
      rotate_left
      · simp only [Act.put, List.setIfInBounds_toArray, List.set_cons_zero, List.set_cons_succ, i64_w, i32_w]
        rfl
      refine pure_ (i := 11) (N := some 28) (v := ?_) (a' := ?_) #[true, true, true, true, true, true, true, true, true, true, true, true, true, false, false, false, false, true, false, false, false, false, false, false] rfl rfl (by kernel_rfl) (fun _ _ _ h => h) (Or.inl ⟨by rfl, ?_⟩) ?_ ?_
      rotate_left
      · intro w'
        go_simp
        with_reducible rfl
      rotate_left
      · simp only [Act.put, List.setIfInBounds_toArray, List.set_cons_zero, List.set_cons_succ, i64_w, i32_w]
        rfl
      refine pure_ (i := 13) (N := some 30) (v := ?_) (a' := ?_) #[true, true, true, true, true, true, true, true, true, true, true, true, true, true, false, false, false, true, false, false, false, false, false, false] rfl rfl (by kernel_rfl) (fun _ _ _ h => h) (Or.inl ⟨by rfl, ?_⟩) ?_ ?_
      rotate_left
      · intro w'
        go_simp
        with_reducible rfl
      rotate_left
      · simp only [Act.put, List.setIfInBounds_toArray, List.set_cons_zero, List.set_cons_succ, i64_w, i32_w]
        rfl
      refine pure_ (i := 14) (N := some 31) (v := ?_) (a' := ?_) #[true, true, true, true, true, true, true, true, true, true, true, true, true, true, true, false, false, true, false, false, false, false, false, false] rfl rfl (by kernel_rfl) (fun _ _ _ h => h) (Or.inl ⟨by rfl, ?_⟩) ?_ ?_
      rotate_left
      · intro w'
        go_simp
        with_reducible rfl
      rotate_left
      · simp only [Act.put, List.setIfInBounds_toArray, List.set_cons_zero, List.set_cons_succ, i64_w, i32_w]
        rfl
      refine take_ (i := 15) (N := some 32) (v := ?_) (a' := ?_) #[true, true, true, true, true, true, true, true, true, true, true, true, true, true, true, true, false, true, false, false, false, false, false, false] rfl rfl (by kernel_rfl) (fun _ _ _ h => h) (Or.inl ⟨by rfl, ?_⟩) hHeld ?_ ?_
      rotate_left
      · rintro w' ⟨s0, s1⟩
        go_simp
        with_reducible rfl
      rotate_left
      · simp only [Act.put, List.setIfInBounds_toArray, List.set_cons_zero, List.set_cons_succ, i64_w, i32_w]
        rfl
      refine take_ (i := 16) (N := some 33) (v := ?_) (a' := ?_) #[true, true, true, true, true, true, true, true, true, true, true, true, true, true, true, true, true, true, false, false, false, false, false, false] rfl rfl (by kernel_rfl) (fun _ _ _ h => h) (Or.inl ⟨by rfl, ?_⟩) hHeld ?_ ?_
      rotate_left
      · rintro w' ⟨s0, s1⟩
        go_simp
        with_reducible rfl
      rotate_left
      · simp only [Act.put, List.setIfInBounds_toArray, List.set_cons_zero, List.set_cons_succ, i64_w, i32_w]
        rfl
      refine pure_ (i := 18) (N := some 35) (v := ?_) (a' := ?_) #[true, true, true, true, true, true, true, true, true, true, true, true, true, true, true, true, true, true, true, false, false, false, false, false] rfl rfl (by kernel_rfl) (fun _ _ _ h => h) (Or.inl ⟨by rfl, ?_⟩) ?_ ?_
      rotate_left
      · intro w'
        go_simp
        with_reducible rfl
      rotate_left
      · simp only [Act.put, List.setIfInBounds_toArray, List.set_cons_zero, List.set_cons_succ, i64_w, i32_w]
        rfl
      refine one_ (i := 19) (N := some 36) #[true, true, true, true, true, true, true, true, true, true, true, true, true, true, true, true, true, true, true, true, false, false, false, false] rfl rfl (by kernel_rfl) (by decide) (fun K hK => ?_)
      refine value_ (w1 := ?_) (v := ?_) (by rfl) rfl ?_ ?_
      rotate_left 2
      · go_simp
        constructor
        · rfl
        · rfl
      refine hK.out _ _ ⟨hHeld.1, hHeld.2⟩ (fun hHeld => ?_)
      clear hK K
      refine norm_ (a' := ?_) ?_ ?_
      rotate_left
      · show Act.put _ (some 36) _ = _
        simp only [Act.put, List.setIfInBounds_toArray, List.set_cons_zero, List.set_cons_succ, i64_w, i32_w]
        rfl
      refine pure_ (i := 20) (N := some 37) (v := ?_) (a' := ?_) #[true, true, true, true, true, true, true, true, true, true, true, true, true, true, true, true, true, true, true, true, true, false, false, false] rfl rfl (by kernel_rfl) (fun _ _ _ h => h) (Or.inl ⟨by rfl, ?_⟩) ?_ ?_
      rotate_left
      · intro w'
        go_simp
        with_reducible rfl
      rotate_left
      · simp only [Act.put, List.setIfInBounds_toArray, List.set_cons_zero, List.set_cons_succ, i64_w, i32_w]
        rfl
      refine one_ (i := 21) (N := none) #[true, true, true, true, true, true, true, true, true, true, true, true, true, true, true, true, true, true, true, true, true, true, false, false] rfl rfl (by kernel_rfl) (by decide) (fun K hK => ?_)
      refine skip_ (w1 := ?_) (by rfl) rfl ?_ ?_
      rotate_left
      · go_simp
        rfl
      refine hK.out _ _ ⟨cell_set_ne hHeld.1 (.inl hgb), cell_set_ne hHeld.2 (.inr hne2)⟩ (fun hHeld => ?_)
      clear hK K
      refine pure_ (i := 22) (N := some 38) (v := ?_) (a' := ?_) #[true, true, true, true, true, true, true, true, true, true, true, true, true, true, true, true, true, true, true, true, true, true, true, false] rfl rfl (by kernel_rfl) (fun _ _ _ h => h) (Or.inl ⟨by rfl, ?_⟩) ?_ ?_
      rotate_left
      · intro w'
        go_simp
        with_reducible rfl
      rotate_left
      · simp only [Act.put, List.setIfInBounds_toArray, List.set_cons_zero, List.set_cons_succ, i64_w, i32_w]
        rfl
      refine last_ (i := 23) (N := none) #[true, true, true, true, true, true, true, true, true, true, true, true, true, true, true, true, true, true, true, true, true, true, true, true] rfl rfl (by kernel_rfl) (by decide) (fun K hK => ?_)
      refine skip_ (w1 := ?_) (by rfl) rfl ?_ ?_
      rotate_left
      · go_simp
        rfl
      refine hK.out _ _ ?_
      clear hK K
      refine done_ (by kernel_rfl) ?_

      go_wp2
      go_roundw
      case measure => have := HLT.out; simp [intOf]; omega
      case rel =>
        have hp := rv_world HLT.out HGB.out HB.out HV.out HX2.out HY2.out HX.out
        exact ⟨j + 1, by go_num, ⟨by have := HLT.out; omega⟩, ⟨hp.1⟩, ⟨hp.2.1.drew⟩, ⟨hp.2.2⟩⟩
    · have hjm : ¬ (j : Int) < (st.2.length : Int) / 2 := by omega
      have HE : Aside0 (j = st.2.length / 2) := ⟨by have := hj.out; omega⟩
      clear hlt
      go_wp2
      go_ret
      have h2 := Option.some.inj H.out
      have hx := HX.out
      rw [HE.out, rv_half, h2] at hx
      exact ⟨_, rfl, Kd.R_mono hx (fun _ _ => trivial), HB.out⟩
end Go.Proofs.Ytafjbebbmfihaaa.P
