-- Laid by a program of this session over the kit's print. Not trusted: Lean checks it.
import Derived.Test.YtafjbebbmfihaaaPx0
import Derived.Test.YtafjbebbmfihaaaHAfter
import Derived.Test.YtafjbebbmfihaaaHLine
namespace Go.Proofs.Ytafjbebbmfihaaa.P
open Go.RowKit Go.Proofs.YtafjbebbmfihaaaW.PrintWords Go.Proofs.YtafjbebbmfihaaaW.PrintLast Go.Proofs.YtafjbebbmfihaaaW.PrintMore
attribute [local go_sem] max2_int min2_int max_two min_two max_three min_three max_four min_four   -- for this text's walks alone
set_option linter.unusedVariables false
set_option linter.unusedSimpArgs false

/-! ### ferrulelaw20_ShuffleStill: function 6 -/
mutual
def ferrulelaw20_ShuffleStill.l0 : Nat → Int → Int → List (S38) → List (S38) → Int → Option (Bool)
  | 0, _, _, _, _, _ => none
  | k + 1, x0, x1, x5, x6, x7 => if x7 < x0 then (if x5.length < 8796093022208 then (if x6.length < 8796093022208 then (ferrulelaw20_ShuffleStill.l0 k x0 x1 (x5 ++ [(⟨x7, x7⟩ : S38)]) (x6 ++ [(⟨x7, x1⟩ : S38)]) (wrap64 (x7 + 1))) else (none)) else (none)) else ((shuffle_Line.f k x5 99).bind fun bt202 => ((shuffle_Line.f k x6 99).bind fun bt206 => ((shuffle_Line.f k (([(⟨99, 1⟩ : S38)] : List (S38))) 99).bind fun bt213 => (if bt202.2 = 0 then (if (bt202.1.length : Int) = 0 then (if bt206.2 = 0 then (if (bt206.1.length : Int) = (wrap64 (x0 - 1)) then (ferrulelaw20_ShuffleStill.j1 k x0 x1 bt206.1 (bt213.2 != 10)) else (ferrulelaw20_ShuffleStill.j1 k x0 x1 bt206.1 true)) else (ferrulelaw20_ShuffleStill.j1 k x0 x1 bt206.1 true)) else (ferrulelaw20_ShuffleStill.j1 k x0 x1 bt206.1 true)) else (ferrulelaw20_ShuffleStill.j1 k x0 x1 bt206.1 true)))))
def ferrulelaw20_ShuffleStill.j1 : Nat → Int → Int → List (S38) → Bool → Option (Bool)
  | 0, _, _, _, _ => none
  | k + 1, x0, x1, x10, x79 => if x79 = true then (some false) else (ferrulelaw20_ShuffleStill.l1 k x0 x1 x10 0)
def ferrulelaw20_ShuffleStill.l1 : Nat → Int → Int → List (S38) → Int → Option (Bool)
  | 0, _, _, _, _ => none
  | k + 1, x0, x1, x10, x14 => if x14 < x0 then ((ferrulelaw20_after.f k x10 x14).bind fun t217 => (if t217 = x1 then (ferrulelaw20_ShuffleStill.l1 k x0 x1 x10 (wrap64 (x14 + 1))) else (some false))) else (some true)
end
def ferrulelaw20_ShuffleStill.f (k : Nat) (a0 : Int) (a1 : Int) : Option (Bool) := if (wrap64 (1 + (Go.bits .and .i64 a0 15))) = 0 then (none) else (ferrulelaw20_ShuffleStill.l0 k (wrap64 (1 + (Go.bits .and .i64 a0 15))) (Int.tmod (wrap64 ((Int.tmod a1 (wrap64 (1 + (Go.bits .and .i64 a0 15)))) + (wrap64 (1 + (Go.bits .and .i64 a0 15))))) (wrap64 (1 + (Go.bits .and .i64 a0 15)))) ([] : List (S38)) ([] : List (S38)) 0)
theorem ferrulelaw20_ShuffleStill.mono_l : ∀ k, (∀ y0 y1 y2 y3 y4, LeO (ferrulelaw20_ShuffleStill.l0 k y0 y1 y2 y3 y4) (ferrulelaw20_ShuffleStill.l0 (k + 1) y0 y1 y2 y3 y4)) ∧ (∀ y0 y1 y2 y3, LeO (ferrulelaw20_ShuffleStill.j1 k y0 y1 y2 y3) (ferrulelaw20_ShuffleStill.j1 (k + 1) y0 y1 y2 y3)) ∧ (∀ y0 y1 y2 y3, LeO (ferrulelaw20_ShuffleStill.l1 k y0 y1 y2 y3) (ferrulelaw20_ShuffleStill.l1 (k + 1) y0 y1 y2 y3))
  | 0 => ⟨fun _ _ _ _ _ r h => by simp [ferrulelaw20_ShuffleStill.l0] at h, fun _ _ _ _ r h => by simp [ferrulelaw20_ShuffleStill.j1] at h, fun _ _ _ _ r h => by simp [ferrulelaw20_ShuffleStill.l1] at h⟩
  | k + 1 => by
    obtain ⟨ih0, ih1, ih2⟩ := ferrulelaw20_ShuffleStill.mono_l k
    refine ⟨?_, ?_, ?_⟩
    · intro y0 y1 y2 y3 y4
      unfold ferrulelaw20_ShuffleStill.l0
      repeat' first
      | (with_reducible exact ih0 _ _ _ _ _)
      | (with_reducible exact ih1 _ _ _ _)
      | (with_reducible exact ih2 _ _ _ _)
      | (with_reducible exact ferrulelaw20_after.mono _ _ _)
      | (with_reducible exact shuffle_Line.mono _ _ _)
      | (with_reducible exact LeO.refl _)
      | (with_reducible exact LeO.none _)
      | (with_reducible refine LeO.ite ?_ ?_)
      | (with_reducible refine LeO.bind ?_ (fun _ => ?_))
      | exact ih0 _ _ _ _ _
      | exact ih1 _ _ _ _
      | exact ih2 _ _ _ _
      | exact ferrulelaw20_after.mono _ _ _
      | exact shuffle_Line.mono _ _ _
      | exact LeO.none _
      | refine LeO.ite ?_ ?_
      | refine LeO.bind ?_ (fun _ => ?_)
    · intro y0 y1 y2 y3
      unfold ferrulelaw20_ShuffleStill.j1
      repeat' first
      | (with_reducible exact ih0 _ _ _ _ _)
      | (with_reducible exact ih1 _ _ _ _)
      | (with_reducible exact ih2 _ _ _ _)
      | (with_reducible exact ferrulelaw20_after.mono _ _ _)
      | (with_reducible exact shuffle_Line.mono _ _ _)
      | (with_reducible exact LeO.refl _)
      | (with_reducible exact LeO.none _)
      | (with_reducible refine LeO.ite ?_ ?_)
      | (with_reducible refine LeO.bind ?_ (fun _ => ?_))
      | exact ih0 _ _ _ _ _
      | exact ih1 _ _ _ _
      | exact ih2 _ _ _ _
      | exact ferrulelaw20_after.mono _ _ _
      | exact shuffle_Line.mono _ _ _
      | exact LeO.none _
      | refine LeO.ite ?_ ?_
      | refine LeO.bind ?_ (fun _ => ?_)
    · intro y0 y1 y2 y3
      unfold ferrulelaw20_ShuffleStill.l1
      repeat' first
      | (with_reducible exact ih0 _ _ _ _ _)
      | (with_reducible exact ih1 _ _ _ _)
      | (with_reducible exact ih2 _ _ _ _)
      | (with_reducible exact ferrulelaw20_after.mono _ _ _)
      | (with_reducible exact shuffle_Line.mono _ _ _)
      | (with_reducible exact LeO.refl _)
      | (with_reducible exact LeO.none _)
      | (with_reducible refine LeO.ite ?_ ?_)
      | (with_reducible refine LeO.bind ?_ (fun _ => ?_))
      | exact ih0 _ _ _ _ _
      | exact ih1 _ _ _ _
      | exact ih2 _ _ _ _
      | exact ferrulelaw20_after.mono _ _ _
      | exact shuffle_Line.mono _ _ _
      | exact LeO.none _
      | refine LeO.ite ?_ ?_
      | refine LeO.bind ?_ (fun _ => ?_)
theorem ferrulelaw20_ShuffleStill.mono : ∀ a0 a1 k, LeO (ferrulelaw20_ShuffleStill.f k a0 a1) (ferrulelaw20_ShuffleStill.f (k + 1) a0 a1) := by
  intro a0 a1 k
  obtain ⟨ih0, ih1, ih2⟩ := ferrulelaw20_ShuffleStill.mono_l k
  unfold ferrulelaw20_ShuffleStill.f
  repeat' first
      | (with_reducible exact ih0 _ _ _ _ _)
      | (with_reducible exact ih1 _ _ _ _)
      | (with_reducible exact ih2 _ _ _ _)
      | (with_reducible exact ferrulelaw20_after.mono _ _ _)
      | (with_reducible exact shuffle_Line.mono _ _ _)
      | (with_reducible exact LeO.refl _)
      | (with_reducible exact LeO.none _)
      | (with_reducible refine LeO.ite ?_ ?_)
      | (with_reducible refine LeO.bind ?_ (fun _ => ?_))
      | exact ih0 _ _ _ _ _
      | exact ih1 _ _ _ _
      | exact ih2 _ _ _ _
      | exact ferrulelaw20_after.mono _ _ _
      | exact shuffle_Line.mono _ _ _
      | exact LeO.none _
      | refine LeO.ite ?_ ?_
      | refine LeO.bind ?_ (fun _ => ?_)
set_option maxHeartbeats 8000000 in
set_option maxRecDepth 100000 in
theorem ferrulelaw20_ShuffleStill.calls (k : Nat) (a0 : Int) (a1 : Int) (r : Bool) (w : World) (h : ferrulelaw20_ShuffleStill.f k a0 a1 = some r) :
    Calls Try.prog 6 #[.int .i64 a0, .int .i64 a1] w fun e w' => e = .returned (.bool r) ∧ Below w.heap.size w w' := by
  have hu38 := Try.underlying38
  have HB := Aside0.mk (Below.refl w.heap.size w)
  have H : (if (wrap64 (1 + (Go.bits .and .i64 a0 15))) = 0 then (none) else (ferrulelaw20_ShuffleStill.l0 k (wrap64 (1 + (Go.bits .and .i64 a0 15))) (Int.tmod (wrap64 ((Int.tmod a1 (wrap64 (1 + (Go.bits .and .i64 a0 15)))) + (wrap64 (1 + (Go.bits .and .i64 a0 15))))) (wrap64 (1 + (Go.bits .and .i64 a0 15)))) ([] : List (S38)) ([] : List (S38)) 0)) = some r := h
  clear h
  by_cases c3 : (wrap64 (1 + (Go.bits .and .i64 a0 15))) = 0
  · rw [if_pos c3] at H
    exact absurd H (by simp)
  · rw [if_neg c3] at H
    have c3b0 : ((wrap64 (1 + (Go.bits .and .i64 a0 15))) == 0) = false := beq_eq_false_iff_ne.mpr c3
    have c3b1 : ((wrap64 (1 + (Go.bits .and .i64 a0 15))) != 0) = true := bne_iff_ne.mpr c3
    have H' := Aside0.mk H
    clear H
    go_enter Try.func6, Try.ntmps6
    go_wp2
    go_loopg [5, 6, 7] k (fun kq v5 v6 v7 w' => ∃ (x5_1 : List (S38)) (x6_1 : List (S38)) (x7_1 : Int), v7 = .int .i64 x7_1 ∧ Aside0 (ferrulelaw20_ShuffleStill.l0 kq (wrap64 (1 + (Go.bits .and .i64 a0 15))) (Int.tmod (wrap64 ((Int.tmod a1 (wrap64 (1 + (Go.bits .and .i64 a0 15)))) + (wrap64 (1 + (Go.bits .and .i64 a0 15))))) (wrap64 (1 + (Go.bits .and .i64 a0 15)))) x5_1 x6_1 x7_1 = some r) ∧ Aside0 (kq ≤ k) ∧ Aside0 (Kd.R k38 38 w' w.heap.size (fun k_ => some k_ ≠ (v6 : Value).ownBlock) v5 x5_1) ∧ Aside0 (Kd.R k38 38 w' w.heap.size (fun k_ => some k_ ≠ (v5 : Value).ownBlock) v6 x6_1) ∧ Aside0 (Below w.heap.size w w'))
    case atStart => exact ⟨(([] : List (S38))), (([] : List (S38))), (0), (by first | rfl | (simp; done) | (simp [*]; done)), H', ⟨Nat.le_refl _⟩, ⟨by first | exact Kd.R_nil _ _ _ _ _ | exact Kd.N_nil _ _ _ _ _ | exact Kd.V_nil _ _ _ _ _ | exact Kd.Q_nil _ _ _ _ _ | exact Kd.S_nil _ _ _ _ _⟩, ⟨by first | exact Kd.R_nil _ _ _ _ _ | exact Kd.N_nil _ _ _ _ _ | exact Kd.V_nil _ _ _ _ _ | exact Kd.Q_nil _ _ _ _ _ | exact Kd.S_nil _ _ _ _ _⟩, ⟨by repeat (first | (with_reducible first | exact HB.out | apply below_alloc | apply pw_below_drewN | apply below_drew1) | exact HB.out)⟩⟩
    case round =>
      clear H'
      try clear p2
      try clear c3
      try clear c3b0
      try clear c3b1
      obtain ⟨x5_1, x6_1, x7_1, rfl, HA, HK1, HO_5, HO_6, HB⟩ := hrel
      cases gk with
      | zero => exact absurd HA.out (by simp [ferrulelaw20_ShuffleStill.l0])
      | succ k1 =>
        have H := HA.out
        clear HA
        simp only [ferrulelaw20_ShuffleStill.l0] at H
        by_cases c4 : x7_1 < (wrap64 (1 + (Go.bits .and .i64 a0 15)))
        · rw [if_pos c4] at H
          have c4b0 : decide (x7_1 < (wrap64 (1 + (Go.bits .and .i64 a0 15)))) = true := decide_eq_true c4
          clear c4
          by_cases c5 : x5_1.length < 8796093022208
          · rw [if_pos c5] at H
            have LMc5 := Aside0.mk c5
            clear c5
            obtain ⟨y196, hy196⟩ : ∃ y_ : List (S38), y_ = (x5_1 ++ [(⟨x7_1, x7_1⟩ : S38)]) := ⟨_, rfl⟩
            replace H : (if x6_1.length < 8796093022208 then (ferrulelaw20_ShuffleStill.l0 k1 (wrap64 (1 + (Go.bits .and .i64 a0 15))) (Int.tmod (wrap64 ((Int.tmod a1 (wrap64 (1 + (Go.bits .and .i64 a0 15)))) + (wrap64 (1 + (Go.bits .and .i64 a0 15))))) (wrap64 (1 + (Go.bits .and .i64 a0 15)))) y196 (x6_1 ++ [(⟨x7_1, (Int.tmod (wrap64 ((Int.tmod a1 (wrap64 (1 + (Go.bits .and .i64 a0 15)))) + (wrap64 (1 + (Go.bits .and .i64 a0 15))))) (wrap64 (1 + (Go.bits .and .i64 a0 15))))⟩ : S38)]) (wrap64 (x7_1 + 1))) else (none)) = some r := by first | (rw [hy196]; with_reducible exact H) | (have H2_ := (Option.bind_some _ _).symm.trans H; rw [hy196]; with_reducible exact H2_) | (have H2_ := (Option.bind_some _ _).symm.trans H; with_reducible exact H2_) | with_reducible exact H | (rw [hy196]; exact H) | exact H
            have Ny196 := Aside0.mk hy196
            clear hy196
            by_cases c6 : x6_1.length < 8796093022208
            · rw [if_pos c6] at H
              have LMc6 := Aside0.mk c6
              clear c6
              obtain ⟨y199, hy199⟩ : ∃ y_ : List (S38), y_ = (x6_1 ++ [(⟨x7_1, (Int.tmod (wrap64 ((Int.tmod a1 (wrap64 (1 + (Go.bits .and .i64 a0 15)))) + (wrap64 (1 + (Go.bits .and .i64 a0 15))))) (wrap64 (1 + (Go.bits .and .i64 a0 15))))⟩ : S38)]) := ⟨_, rfl⟩
              replace H : (ferrulelaw20_ShuffleStill.l0 k1 (wrap64 (1 + (Go.bits .and .i64 a0 15))) (Int.tmod (wrap64 ((Int.tmod a1 (wrap64 (1 + (Go.bits .and .i64 a0 15)))) + (wrap64 (1 + (Go.bits .and .i64 a0 15))))) (wrap64 (1 + (Go.bits .and .i64 a0 15)))) y196 y199 (wrap64 (x7_1 + 1))) = some r := by first | (rw [hy199]; with_reducible exact H) | (have H2_ := (Option.bind_some _ _).symm.trans H; rw [hy199]; with_reducible exact H2_) | (have H2_ := (Option.bind_some _ _).symm.trans H; with_reducible exact H2_) | with_reducible exact H | (rw [hy199]; exact H) | exact H
              have Ny199 := Aside0.mk hy199
              clear hy199
              have H' := Aside0.mk H
              clear H
              go_wp2_with (first | ((with_reducible refine gate_builtin (b := .append) (xs := #[.tmp 30, .tmp 34]) rfl ?_); (try (refine gate_guard (by rfl) ?_; dsimp only)); at_builtin; refine Kd.R_append k38 (w0 := w) w.heap.size rfl (.tmp 30) (.tmp 34) 29 38 (.agg #[(.int .i64 0), (.int .i64 0)]) 16 rfl Try.underlying29 info38 rfl (by decide) (by omega) u5 x5_1 (⟨x7_1, x7_1⟩ : S38) [.int .i64 x7_1, .int .i64 x7_1] (fun k_ => some k_ ≠ (u6 : Value).ownBlock) (fun _ => False) rfl rfl ?aP (fun _ hk => hk.elim) ?aF ?aO ?aB ?aS ?aL ?_; (case aP => exact k38_mkM _ _ _ (⟨x7_1, x7_1⟩ : S38)); (case aB => exact (by repeat (first | (with_reducible first | exact HB.out | apply below_alloc | apply pw_below_drewN | apply below_drew1) | exact HB.out))); (case aF => exact (fun k_ hk => Kd.fresh' (Kd.R_lt (by (with_reducible repeat (first | apply Kd.R_alloc | apply Kd.R_drewN | apply Kd.R_drew)); exact HO_6.out)) k_ hk)); (case aO => exact (by (with_reducible repeat (first | apply Kd.R_alloc | apply Kd.R_drewN | apply Kd.R_drew)); exact HO_5.out)); (case aS => exact (below_size (by repeat (first | (with_reducible first | exact HB.out | apply below_alloc | apply pw_below_drewN | apply below_drew1) | exact HB.out)))); (case aL => have := LMc5.out; omega); intro v197 w7 ho hb hg hat; rw [← Ny196.out] at ho; have n0_ := Aside0.mk (Kd.R_after (ok := (fun _ => True)) (by (with_reducible repeat (first | apply Kd.R_alloc | apply Kd.R_drewN | apply Kd.R_drew)); exact Kd.R_mono HO_6.out (fun _ hk => ⟨trivial, hk⟩)) hg hat); have n1_ := Aside0.mk (hb); have n2_ := Aside0.mk (ho); clear HO_6; clear HB; clear HO_5; have HO_6 := n0_; have HB := n1_; have HO198 := n2_; clear n0_ n1_ n2_; clear ho hb hg hat) | ((with_reducible refine gate_builtin (b := .append) (xs := #[.tmp 36, .tmp 40]) rfl ?_); (try (refine gate_guard (by rfl) ?_; dsimp only)); at_builtin; refine Kd.R_append k38 (w0 := w) w.heap.size rfl (.tmp 36) (.tmp 40) 29 38 (.agg #[(.int .i64 0), (.int .i64 0)]) 16 rfl Try.underlying29 info38 rfl (by decide) (by omega) u6 x6_1 (⟨x7_1, (Int.tmod (wrap64 ((Int.tmod a1 (wrap64 (1 + (Go.bits .and .i64 a0 15)))) + (wrap64 (1 + (Go.bits .and .i64 a0 15))))) (wrap64 (1 + (Go.bits .and .i64 a0 15))))⟩ : S38) [.int .i64 x7_1, .int .i64 (Int.tmod (wrap64 ((Int.tmod a1 (wrap64 (1 + (Go.bits .and .i64 a0 15)))) + (wrap64 (1 + (Go.bits .and .i64 a0 15))))) (wrap64 (1 + (Go.bits .and .i64 a0 15))))] (fun k_ => some k_ ≠ (v197 : Value).ownBlock) (fun _ => False) rfl rfl ?aP (fun _ hk => hk.elim) ?aF ?aO ?aB ?aS ?aL ?_; (case aP => exact k38_mkM _ _ _ (⟨x7_1, (Int.tmod (wrap64 ((Int.tmod a1 (wrap64 (1 + (Go.bits .and .i64 a0 15)))) + (wrap64 (1 + (Go.bits .and .i64 a0 15))))) (wrap64 (1 + (Go.bits .and .i64 a0 15))))⟩ : S38)); (case aB => exact (by repeat (first | (with_reducible first | exact HB.out | apply below_alloc | apply pw_below_drewN | apply below_drew1) | exact HB.out))); (case aF => exact (fun k_ hk => Kd.fresh' (Kd.R_lt (by (with_reducible repeat (first | apply Kd.R_alloc | apply Kd.R_drewN | apply Kd.R_drew)); exact HO198.out)) k_ hk)); (case aO => exact (by (with_reducible repeat (first | apply Kd.R_alloc | apply Kd.R_drewN | apply Kd.R_drew)); exact Kd.R_mono HO_6.out (fun _ hk => hk.2))); (case aS => exact (below_size (by repeat (first | (with_reducible first | exact HB.out | apply below_alloc | apply pw_below_drewN | apply below_drew1) | exact HB.out)))); (case aL => have := LMc6.out; omega); intro v200 w8 ho hb hg hat; rw [← Ny199.out] at ho; have n0_ := Aside0.mk (Kd.R_after (ok := (fun _ => True)) (by (with_reducible repeat (first | apply Kd.R_alloc | apply Kd.R_drewN | apply Kd.R_drew)); exact Kd.R_mono HO198.out (fun _ hk => ⟨trivial, hk⟩)) hg hat); have n1_ := Aside0.mk (hb); have n2_ := Aside0.mk (ho); clear HO198; clear HB; clear HO_6; have HO198 := n0_; have HB := n1_; have HO201 := n2_; clear n0_ n1_ n2_; clear ho hb hg hat))
              go_roundg k1
              case measure => have := HK1.out; omega
              case rel => exact ⟨(y196), (y199), (wrap64 (x7_1 + 1)), (by first | rfl | (simp; done) | (simp [*]; done)), H', ⟨by have := HK1.out; omega⟩, ⟨by (with_reducible repeat (first | apply Kd.R_alloc | apply Kd.R_drewN | apply Kd.R_drew)); exact Kd.R_mono HO198.out (fun _ hk => hk.2)⟩, ⟨by (with_reducible repeat (first | apply Kd.R_alloc | apply Kd.R_drewN | apply Kd.R_drew)); exact HO201.out⟩, ⟨by repeat (first | (with_reducible first | exact HB.out | apply below_alloc | apply pw_below_drewN | apply below_drew1) | exact HB.out)⟩⟩
            · rw [if_neg c6] at H
              exact absurd H (by simp)
          · rw [if_neg c5] at H
            exact absurd H (by simp)
        · rw [if_neg c4] at H
          have c4b0 : decide (x7_1 < (wrap64 (1 + (Go.bits .and .i64 a0 15)))) = false := decide_eq_false c4
          clear c4
          replace H := Option.bind_eq_some_iff.mp H
          obtain ⟨⟨t202, t203⟩, A90, H⟩ := H
          replace H : ((shuffle_Line.f k1 x6_1 99).bind fun bt206 => ((shuffle_Line.f k1 (([(⟨99, 1⟩ : S38)] : List (S38))) 99).bind fun bt213 => (if t203 = 0 then (if (t202.length : Int) = 0 then (if bt206.2 = 0 then (if (bt206.1.length : Int) = (wrap64 ((wrap64 (1 + (Go.bits .and .i64 a0 15))) - 1)) then (ferrulelaw20_ShuffleStill.j1 k1 (wrap64 (1 + (Go.bits .and .i64 a0 15))) (Int.tmod (wrap64 ((Int.tmod a1 (wrap64 (1 + (Go.bits .and .i64 a0 15)))) + (wrap64 (1 + (Go.bits .and .i64 a0 15))))) (wrap64 (1 + (Go.bits .and .i64 a0 15)))) bt206.1 (bt213.2 != 10)) else (ferrulelaw20_ShuffleStill.j1 k1 (wrap64 (1 + (Go.bits .and .i64 a0 15))) (Int.tmod (wrap64 ((Int.tmod a1 (wrap64 (1 + (Go.bits .and .i64 a0 15)))) + (wrap64 (1 + (Go.bits .and .i64 a0 15))))) (wrap64 (1 + (Go.bits .and .i64 a0 15)))) bt206.1 true)) else (ferrulelaw20_ShuffleStill.j1 k1 (wrap64 (1 + (Go.bits .and .i64 a0 15))) (Int.tmod (wrap64 ((Int.tmod a1 (wrap64 (1 + (Go.bits .and .i64 a0 15)))) + (wrap64 (1 + (Go.bits .and .i64 a0 15))))) (wrap64 (1 + (Go.bits .and .i64 a0 15)))) bt206.1 true)) else (ferrulelaw20_ShuffleStill.j1 k1 (wrap64 (1 + (Go.bits .and .i64 a0 15))) (Int.tmod (wrap64 ((Int.tmod a1 (wrap64 (1 + (Go.bits .and .i64 a0 15)))) + (wrap64 (1 + (Go.bits .and .i64 a0 15))))) (wrap64 (1 + (Go.bits .and .i64 a0 15)))) bt206.1 true)) else (ferrulelaw20_ShuffleStill.j1 k1 (wrap64 (1 + (Go.bits .and .i64 a0 15))) (Int.tmod (wrap64 ((Int.tmod a1 (wrap64 (1 + (Go.bits .and .i64 a0 15)))) + (wrap64 (1 + (Go.bits .and .i64 a0 15))))) (wrap64 (1 + (Go.bits .and .i64 a0 15)))) bt206.1 true)))) = some r := H
          have A9 := Aside0.mk A90
          clear A90
          replace H := Option.bind_eq_some_iff.mp H
          obtain ⟨⟨t206, t207⟩, A100, H⟩ := H
          replace H : ((shuffle_Line.f k1 (([(⟨99, 1⟩ : S38)] : List (S38))) 99).bind fun bt213 => (if t203 = 0 then (if (t202.length : Int) = 0 then (if t207 = 0 then (if (t206.length : Int) = (wrap64 ((wrap64 (1 + (Go.bits .and .i64 a0 15))) - 1)) then (ferrulelaw20_ShuffleStill.j1 k1 (wrap64 (1 + (Go.bits .and .i64 a0 15))) (Int.tmod (wrap64 ((Int.tmod a1 (wrap64 (1 + (Go.bits .and .i64 a0 15)))) + (wrap64 (1 + (Go.bits .and .i64 a0 15))))) (wrap64 (1 + (Go.bits .and .i64 a0 15)))) t206 (bt213.2 != 10)) else (ferrulelaw20_ShuffleStill.j1 k1 (wrap64 (1 + (Go.bits .and .i64 a0 15))) (Int.tmod (wrap64 ((Int.tmod a1 (wrap64 (1 + (Go.bits .and .i64 a0 15)))) + (wrap64 (1 + (Go.bits .and .i64 a0 15))))) (wrap64 (1 + (Go.bits .and .i64 a0 15)))) t206 true)) else (ferrulelaw20_ShuffleStill.j1 k1 (wrap64 (1 + (Go.bits .and .i64 a0 15))) (Int.tmod (wrap64 ((Int.tmod a1 (wrap64 (1 + (Go.bits .and .i64 a0 15)))) + (wrap64 (1 + (Go.bits .and .i64 a0 15))))) (wrap64 (1 + (Go.bits .and .i64 a0 15)))) t206 true)) else (ferrulelaw20_ShuffleStill.j1 k1 (wrap64 (1 + (Go.bits .and .i64 a0 15))) (Int.tmod (wrap64 ((Int.tmod a1 (wrap64 (1 + (Go.bits .and .i64 a0 15)))) + (wrap64 (1 + (Go.bits .and .i64 a0 15))))) (wrap64 (1 + (Go.bits .and .i64 a0 15)))) t206 true)) else (ferrulelaw20_ShuffleStill.j1 k1 (wrap64 (1 + (Go.bits .and .i64 a0 15))) (Int.tmod (wrap64 ((Int.tmod a1 (wrap64 (1 + (Go.bits .and .i64 a0 15)))) + (wrap64 (1 + (Go.bits .and .i64 a0 15))))) (wrap64 (1 + (Go.bits .and .i64 a0 15)))) t206 true))) = some r := H
          have A10 := Aside0.mk A100
          clear A100
          obtain ⟨y210, hy210⟩ : ∃ y_ : List (S38), y_ = (([(⟨99, 1⟩ : S38)] : List (S38))) := ⟨_, rfl⟩
          replace H : ((shuffle_Line.f k1 y210 99).bind fun bt213 => (if t203 = 0 then (if (t202.length : Int) = 0 then (if t207 = 0 then (if (t206.length : Int) = (wrap64 ((wrap64 (1 + (Go.bits .and .i64 a0 15))) - 1)) then (ferrulelaw20_ShuffleStill.j1 k1 (wrap64 (1 + (Go.bits .and .i64 a0 15))) (Int.tmod (wrap64 ((Int.tmod a1 (wrap64 (1 + (Go.bits .and .i64 a0 15)))) + (wrap64 (1 + (Go.bits .and .i64 a0 15))))) (wrap64 (1 + (Go.bits .and .i64 a0 15)))) t206 (bt213.2 != 10)) else (ferrulelaw20_ShuffleStill.j1 k1 (wrap64 (1 + (Go.bits .and .i64 a0 15))) (Int.tmod (wrap64 ((Int.tmod a1 (wrap64 (1 + (Go.bits .and .i64 a0 15)))) + (wrap64 (1 + (Go.bits .and .i64 a0 15))))) (wrap64 (1 + (Go.bits .and .i64 a0 15)))) t206 true)) else (ferrulelaw20_ShuffleStill.j1 k1 (wrap64 (1 + (Go.bits .and .i64 a0 15))) (Int.tmod (wrap64 ((Int.tmod a1 (wrap64 (1 + (Go.bits .and .i64 a0 15)))) + (wrap64 (1 + (Go.bits .and .i64 a0 15))))) (wrap64 (1 + (Go.bits .and .i64 a0 15)))) t206 true)) else (ferrulelaw20_ShuffleStill.j1 k1 (wrap64 (1 + (Go.bits .and .i64 a0 15))) (Int.tmod (wrap64 ((Int.tmod a1 (wrap64 (1 + (Go.bits .and .i64 a0 15)))) + (wrap64 (1 + (Go.bits .and .i64 a0 15))))) (wrap64 (1 + (Go.bits .and .i64 a0 15)))) t206 true)) else (ferrulelaw20_ShuffleStill.j1 k1 (wrap64 (1 + (Go.bits .and .i64 a0 15))) (Int.tmod (wrap64 ((Int.tmod a1 (wrap64 (1 + (Go.bits .and .i64 a0 15)))) + (wrap64 (1 + (Go.bits .and .i64 a0 15))))) (wrap64 (1 + (Go.bits .and .i64 a0 15)))) t206 true))) = some r := by first | (rw [hy210]; with_reducible exact H) | (have H2_ := (Option.bind_some _ _).symm.trans H; rw [hy210]; with_reducible exact H2_) | (have H2_ := (Option.bind_some _ _).symm.trans H; with_reducible exact H2_) | with_reducible exact H | (rw [hy210]; exact H) | exact H
          have Ny210 := Aside0.mk hy210
          clear hy210
          replace H := Option.bind_eq_some_iff.mp H
          obtain ⟨⟨t213, t214⟩, A110, H⟩ := H
          replace H : (if t203 = 0 then (if (t202.length : Int) = 0 then (if t207 = 0 then (if (t206.length : Int) = (wrap64 ((wrap64 (1 + (Go.bits .and .i64 a0 15))) - 1)) then (ferrulelaw20_ShuffleStill.j1 k1 (wrap64 (1 + (Go.bits .and .i64 a0 15))) (Int.tmod (wrap64 ((Int.tmod a1 (wrap64 (1 + (Go.bits .and .i64 a0 15)))) + (wrap64 (1 + (Go.bits .and .i64 a0 15))))) (wrap64 (1 + (Go.bits .and .i64 a0 15)))) t206 (t214 != 10)) else (ferrulelaw20_ShuffleStill.j1 k1 (wrap64 (1 + (Go.bits .and .i64 a0 15))) (Int.tmod (wrap64 ((Int.tmod a1 (wrap64 (1 + (Go.bits .and .i64 a0 15)))) + (wrap64 (1 + (Go.bits .and .i64 a0 15))))) (wrap64 (1 + (Go.bits .and .i64 a0 15)))) t206 true)) else (ferrulelaw20_ShuffleStill.j1 k1 (wrap64 (1 + (Go.bits .and .i64 a0 15))) (Int.tmod (wrap64 ((Int.tmod a1 (wrap64 (1 + (Go.bits .and .i64 a0 15)))) + (wrap64 (1 + (Go.bits .and .i64 a0 15))))) (wrap64 (1 + (Go.bits .and .i64 a0 15)))) t206 true)) else (ferrulelaw20_ShuffleStill.j1 k1 (wrap64 (1 + (Go.bits .and .i64 a0 15))) (Int.tmod (wrap64 ((Int.tmod a1 (wrap64 (1 + (Go.bits .and .i64 a0 15)))) + (wrap64 (1 + (Go.bits .and .i64 a0 15))))) (wrap64 (1 + (Go.bits .and .i64 a0 15)))) t206 true)) else (ferrulelaw20_ShuffleStill.j1 k1 (wrap64 (1 + (Go.bits .and .i64 a0 15))) (Int.tmod (wrap64 ((Int.tmod a1 (wrap64 (1 + (Go.bits .and .i64 a0 15)))) + (wrap64 (1 + (Go.bits .and .i64 a0 15))))) (wrap64 (1 + (Go.bits .and .i64 a0 15)))) t206 true)) = some r := H
          have A11 := Aside0.mk A110
          clear A110
          have HC12 := Aside0.mk H
          clear H
          obtain ⟨Ao13, co13, eo13⟩ := Kd.R_slice HO_5.out
          subst eo13
          go_upto_region 12 with (first | ((with_reducible refine gate_callee (f := 15) rfl ?_); refine goesL_ (some 44) rfl rfl Try.func15 (by kernel_rfl) rfl #[.slice Ao13 x5_1.length co13, .int .i64 99] rfl (by (try simp only [List.map_toArray, List.map_cons, List.map_nil]); first | done | rfl | (simp only [List.length_drop, List.length_take]; rfl)) ?_; (with_reducible refine (shuffle_Line.calls k1 _ _ x5_1 99 t202 t203 _ ?side1 ?side2 A9.out).mono ?_); (case side1 => repeat (first | exact (Kd.R_reads' HO_5.out).2.2 | (with_reducible refine Kd.C_alloc ?_ _) | (with_reducible refine Kd.C_drewN ?_ _) | (with_reducible refine Kd.C_drew ?_))); (case side2 => exact (Kd.R_reads' HO_5.out).2.1); rintro e w14 ⟨v204, rfl, ho0, hb⟩; refine ⟨_, rfl, ?_⟩; have n0_ := Aside0.mk (Kd.R_elder' (by (with_reducible repeat (first | apply Kd.R_alloc | apply Kd.R_drewN | apply Kd.R_drew)); exact HO_5.out) (Kd.R_base ho0) hb); have n1_ := Aside0.mk (Kd.R_elder' (by (with_reducible repeat (first | apply Kd.R_alloc | apply Kd.R_drewN | apply Kd.R_drew)); exact HO_6.out) (Kd.R_base ho0) hb); have n2_ := Aside0.mk (Kd.R_lower (Kd.R_new' (Kd.R_new' ho0 (Kd.R_lt (by (with_reducible repeat (first | apply Kd.R_alloc | apply Kd.R_drewN | apply Kd.R_drew)); exact HO_5.out))) (Kd.R_lt (by (with_reducible repeat (first | apply Kd.R_alloc | apply Kd.R_drewN | apply Kd.R_drew)); exact HO_6.out))) (below_size (by repeat (first | (with_reducible first | exact HB.out | apply below_alloc | apply pw_below_drewN | apply below_drew1) | exact HB.out)))); have n3_ := Aside0.mk (below_step (by repeat (first | (with_reducible first | exact HB.out | apply below_alloc | apply pw_below_drewN | apply below_drew1) | exact HB.out)) hb); clear HO_5; clear HO_6; clear HB; have HO_5 := n0_; have HO_6 := n1_; have HO205 := n2_; have HB := n3_; clear n0_ n1_ n2_ n3_; (try clear hb); (try clear hb2); (try clear hk); (try clear hi); (try clear ho0); obtain ⟨Ao15, co15, eo15⟩ := Kd.R_slice HO_6.out; subst eo15) | ((with_reducible refine gate_callee (f := 15) rfl ?_); refine goesL_ (some 49) rfl rfl Try.func15 (by kernel_rfl) rfl #[.slice Ao15 x6_1.length co15, .int .i64 99] rfl (by (try simp only [List.map_toArray, List.map_cons, List.map_nil]); first | done | rfl | (simp only [List.length_drop, List.length_take]; rfl)) ?_; (with_reducible refine (shuffle_Line.calls k1 _ _ x6_1 99 t206 t207 _ ?side1 ?side2 A10.out).mono ?_); (case side1 => repeat (first | exact (Kd.R_reads' HO_6.out).2.2 | (with_reducible refine Kd.C_alloc ?_ _) | (with_reducible refine Kd.C_drewN ?_ _) | (with_reducible refine Kd.C_drew ?_))); (case side2 => exact (Kd.R_reads' HO_6.out).2.1); rintro e w16 ⟨v208, rfl, ho0, hb⟩; refine ⟨_, rfl, ?_⟩; have n0_ := Aside0.mk (Kd.R_elder' (by (with_reducible repeat (first | apply Kd.R_alloc | apply Kd.R_drewN | apply Kd.R_drew)); exact HO_5.out) (Kd.R_base ho0) hb); have n1_ := Aside0.mk (Kd.R_elder' (by (with_reducible repeat (first | apply Kd.R_alloc | apply Kd.R_drewN | apply Kd.R_drew)); exact HO_6.out) (Kd.R_base ho0) hb); have n2_ := Aside0.mk (Kd.R_elder' (by (with_reducible repeat (first | apply Kd.R_alloc | apply Kd.R_drewN | apply Kd.R_drew)); exact HO205.out) (Kd.R_base ho0) hb); have n3_ := Aside0.mk (Kd.R_lower (Kd.R_new' (Kd.R_new' (Kd.R_new' ho0 (Kd.R_lt (by (with_reducible repeat (first | apply Kd.R_alloc | apply Kd.R_drewN | apply Kd.R_drew)); exact HO_5.out))) (Kd.R_lt (by (with_reducible repeat (first | apply Kd.R_alloc | apply Kd.R_drewN | apply Kd.R_drew)); exact HO_6.out))) (Kd.R_lt (by (with_reducible repeat (first | apply Kd.R_alloc | apply Kd.R_drewN | apply Kd.R_drew)); exact HO205.out))) (below_size (by repeat (first | (with_reducible first | exact HB.out | apply below_alloc | apply pw_below_drewN | apply below_drew1) | exact HB.out)))); have n4_ := Aside0.mk (below_step (by repeat (first | (with_reducible first | exact HB.out | apply below_alloc | apply pw_below_drewN | apply below_drew1) | exact HB.out)) hb); clear HO_5; clear HO_6; clear HO205; clear HB; have HO_5 := n0_; have HO_6 := n1_; have HO205 := n2_; have HO209 := n3_; have HB := n4_; clear n0_ n1_ n2_ n3_ n4_; (try clear hb); (try clear hb2); (try clear hk); (try clear hi); (try clear ho0)) | ((with_reducible refine gate_dst (N := 54) rfl ?_); (try (refine gate_guard (by rfl) ?_; dsimp only)); refine Kd.R_lit k38 _ 38 ?hg (N := 54) ?hd (xs := ([(⟨99, 1⟩ : S38)] : List (S38))) (inner := [.int .i64 99, .int .i64 1]) (ok := fun _ => True) (okp := fun _ => True) ?hr ?hp (fun _ hk => hk) trivial (Below.refl _ _) (Nat.le_refl _) (by simp) ?_; (case hd => rfl); (case hg => rfl); (case hr => first | (go_simp; done) | (go_simp; rfl)); (case hp => exact (Reps.c2 (show Kd.M k38 _ _ _ (⟨99, 1⟩ : S38) [.int .i64 99, .int .i64 1] from (k38_mkM _ _ _ (⟨99, 1⟩ : S38) )) (Reps.none _ _))); intro v211 w17 ho18 hb hg_ hnew_; clear hg_ hnew_; (first | rw [← Ny210.out] at ho18 | (simp only [Int.reduceToNat] at ho18; rw [← Ny210.out] at ho18)); have n0_ := Aside0.mk (Kd.R_elder' (by (with_reducible repeat (first | apply Kd.R_alloc | apply Kd.R_drewN | apply Kd.R_drew)); exact HO_5.out) (Kd.R_base ho18) hb); have n1_ := Aside0.mk (Kd.R_elder' (by (with_reducible repeat (first | apply Kd.R_alloc | apply Kd.R_drewN | apply Kd.R_drew)); exact HO_6.out) (Kd.R_base ho18) hb); have n2_ := Aside0.mk (Kd.R_elder' (by (with_reducible repeat (first | apply Kd.R_alloc | apply Kd.R_drewN | apply Kd.R_drew)); exact HO205.out) (Kd.R_base ho18) hb); have n3_ := Aside0.mk (Kd.R_elder' (by (with_reducible repeat (first | apply Kd.R_alloc | apply Kd.R_drewN | apply Kd.R_drew)); exact HO209.out) (Kd.R_base ho18) hb); have n4_ := Aside0.mk (Kd.R_lower (Kd.R_new' (Kd.R_new' (Kd.R_new' (Kd.R_new' ho18 (Kd.R_lt (by (with_reducible repeat (first | apply Kd.R_alloc | apply Kd.R_drewN | apply Kd.R_drew)); exact HO_5.out))) (Kd.R_lt (by (with_reducible repeat (first | apply Kd.R_alloc | apply Kd.R_drewN | apply Kd.R_drew)); exact HO_6.out))) (Kd.R_lt (by (with_reducible repeat (first | apply Kd.R_alloc | apply Kd.R_drewN | apply Kd.R_drew)); exact HO205.out))) (Kd.R_lt (by (with_reducible repeat (first | apply Kd.R_alloc | apply Kd.R_drewN | apply Kd.R_drew)); exact HO209.out))) (below_size (by repeat (first | (with_reducible first | exact HB.out | apply below_alloc | apply pw_below_drewN | apply below_drew1) | exact HB.out)))); have n5_ := Aside0.mk (below_step (by repeat (first | (with_reducible first | exact HB.out | apply below_alloc | apply pw_below_drewN | apply below_drew1) | exact HB.out)) hb); clear HO_5; clear HO_6; clear HO205; clear HO209; clear HB; have HO_5 := n0_; have HO_6 := n1_; have HO205 := n2_; have HO209 := n3_; have HO212 := n4_; have HB := n5_; clear n0_ n1_ n2_ n3_ n4_ n5_; clear hb ho18; obtain ⟨Ao19, co19, eo19⟩ := Kd.R_slice HO212.out; subst eo19) | ((with_reducible refine gate_callee (f := 15) rfl ?_); refine goesL_ (some 55) rfl rfl Try.func15 (by kernel_rfl) rfl #[.slice Ao19 y210.length co19, .int .i64 99] rfl (by (try simp only [List.map_toArray, List.map_cons, List.map_nil]); first | done | rfl | (simp only [List.length_drop, List.length_take]; rfl)) ?_; (with_reducible refine (shuffle_Line.calls k1 _ _ y210 99 t213 t214 _ ?side1 ?side2 A11.out).mono ?_); (case side1 => repeat (first | exact (Kd.R_reads' HO212.out).2.2 | (with_reducible refine Kd.C_alloc ?_ _) | (with_reducible refine Kd.C_drewN ?_ _) | (with_reducible refine Kd.C_drew ?_))); (case side2 => exact (Kd.R_reads' HO212.out).2.1); rintro e w20 ⟨v215, rfl, ho0, hb⟩; refine ⟨_, rfl, ?_⟩; have n0_ := Aside0.mk (Kd.R_elder' (by (with_reducible repeat (first | apply Kd.R_alloc | apply Kd.R_drewN | apply Kd.R_drew)); exact HO_5.out) (Kd.R_base ho0) hb); have n1_ := Aside0.mk (Kd.R_elder' (by (with_reducible repeat (first | apply Kd.R_alloc | apply Kd.R_drewN | apply Kd.R_drew)); exact HO_6.out) (Kd.R_base ho0) hb); have n2_ := Aside0.mk (Kd.R_elder' (by (with_reducible repeat (first | apply Kd.R_alloc | apply Kd.R_drewN | apply Kd.R_drew)); exact HO205.out) (Kd.R_base ho0) hb); have n3_ := Aside0.mk (Kd.R_elder' (by (with_reducible repeat (first | apply Kd.R_alloc | apply Kd.R_drewN | apply Kd.R_drew)); exact HO209.out) (Kd.R_base ho0) hb); have n4_ := Aside0.mk (Kd.R_elder' (by (with_reducible repeat (first | apply Kd.R_alloc | apply Kd.R_drewN | apply Kd.R_drew)); exact HO212.out) (Kd.R_base ho0) hb); have n5_ := Aside0.mk (Kd.R_lower (Kd.R_new' (Kd.R_new' (Kd.R_new' (Kd.R_new' (Kd.R_new' ho0 (Kd.R_lt (by (with_reducible repeat (first | apply Kd.R_alloc | apply Kd.R_drewN | apply Kd.R_drew)); exact HO_5.out))) (Kd.R_lt (by (with_reducible repeat (first | apply Kd.R_alloc | apply Kd.R_drewN | apply Kd.R_drew)); exact HO_6.out))) (Kd.R_lt (by (with_reducible repeat (first | apply Kd.R_alloc | apply Kd.R_drewN | apply Kd.R_drew)); exact HO205.out))) (Kd.R_lt (by (with_reducible repeat (first | apply Kd.R_alloc | apply Kd.R_drewN | apply Kd.R_drew)); exact HO209.out))) (Kd.R_lt (by (with_reducible repeat (first | apply Kd.R_alloc | apply Kd.R_drewN | apply Kd.R_drew)); exact HO212.out))) (below_size (by repeat (first | (with_reducible first | exact HB.out | apply below_alloc | apply pw_below_drewN | apply below_drew1) | exact HB.out)))); have n6_ := Aside0.mk (below_step (by repeat (first | (with_reducible first | exact HB.out | apply below_alloc | apply pw_below_drewN | apply below_drew1) | exact HB.out)) hb); clear HO_5; clear HO_6; clear HO205; clear HO209; clear HO212; clear HB; have HO_5 := n0_; have HO_6 := n1_; have HO205 := n2_; have HO209 := n3_; have HO212 := n4_; have HO216 := n5_; have HB := n6_; clear n0_ n1_ n2_ n3_ n4_ n5_ n6_; (try clear hb); (try clear hb2); (try clear hk); (try clear hi); (try clear ho0)))
          (try simp only [Act.put, List.setIfInBounds_toArray, List.set_cons_zero, List.set_cons_succ])
          go_cut [79] (fun v79 wc => ∃ (kq : Nat) (x79_11 : Bool), v79 = .bool x79_11 ∧ Aside0 (ferrulelaw20_ShuffleStill.j1 kq (wrap64 (1 + (Go.bits .and .i64 a0 15))) (Int.tmod (wrap64 ((Int.tmod a1 (wrap64 (1 + (Go.bits .and .i64 a0 15)))) + (wrap64 (1 + (Go.bits .and .i64 a0 15))))) (wrap64 (1 + (Go.bits .and .i64 a0 15)))) t206 x79_11 = some r) ∧ Aside0 (kq ≤ k1) ∧ Aside0 (Kd.R k38 38 wc w.heap.size (fun _ => True) v208 t206) ∧ Aside0 (Below w.heap.size w wc))
          case first =>
            have H := HC12.out
            clear HC12
            by_cases c21 : t203 = 0
            · rw [if_pos c21] at H
              have c21b0 : (t203 == 0) = true := beq_iff_eq.mpr c21
              have c21b1 : (t203 != 0) = false := bne_eq_false_iff_eq.mpr c21
              clear c21
              (first | rw [c21b0] | (simp only [i64_w, i32_w]; rw [c21b0]) | skip)
              by_cases c22 : (t202.length : Int) = 0
              · rw [if_pos c22] at H
                have c22b0 : ((t202.length : Int) == 0) = true := beq_iff_eq.mpr c22
                have c22b1 : ((t202.length : Int) != 0) = false := bne_eq_false_iff_eq.mpr c22
                clear c22
                by_cases c23 : t207 = 0
                · rw [if_pos c23] at H
                  have c23b0 : (t207 == 0) = true := beq_iff_eq.mpr c23
                  have c23b1 : (t207 != 0) = false := bne_eq_false_iff_eq.mpr c23
                  clear c23
                  by_cases c24 : (t206.length : Int) = (wrap64 ((wrap64 (1 + (Go.bits .and .i64 a0 15))) - 1))
                  · rw [if_pos c24] at H
                    have c24b0 : ((t206.length : Int) == (wrap64 ((wrap64 (1 + (Go.bits .and .i64 a0 15))) - 1))) = true := beq_iff_eq.mpr c24
                    have c24b1 : ((t206.length : Int) != (wrap64 ((wrap64 (1 + (Go.bits .and .i64 a0 15))) - 1))) = false := bne_eq_false_iff_eq.mpr c24
                    clear c24
                    have H' := Aside0.mk H
                    clear H
                    obtain ⟨Ao25, co25, eo25⟩ := Kd.R_slice HO205.out
                    subst eo25
                    obtain ⟨Ao26, co26, eo26⟩ := Kd.R_slice HO209.out
                    subst eo26
                    go_wp2
                    go_meet
                    case rel => exact ⟨_, ((t214 != 10)), (by first | rfl | (simp; done) | (simp [*]; done)), H', ⟨by have := HK1.out; first | omega | exact Nat.le_refl _⟩, ⟨by (with_reducible repeat (first | apply Kd.R_alloc | apply Kd.R_drewN | apply Kd.R_drew)); exact Kd.R_mono HO209.out (fun _ hk => trivial)⟩, ⟨by repeat (first | (with_reducible first | exact HB.out | apply below_alloc | apply pw_below_drewN | apply below_drew1) | exact HB.out)⟩⟩
                  · rw [if_neg c24] at H
                    have c24b0 : ((t206.length : Int) == (wrap64 ((wrap64 (1 + (Go.bits .and .i64 a0 15))) - 1))) = false := beq_eq_false_iff_ne.mpr c24
                    have c24b1 : ((t206.length : Int) != (wrap64 ((wrap64 (1 + (Go.bits .and .i64 a0 15))) - 1))) = true := bne_iff_ne.mpr c24
                    have H' := Aside0.mk H
                    clear H
                    obtain ⟨Ao27, co27, eo27⟩ := Kd.R_slice HO205.out
                    subst eo27
                    obtain ⟨Ao28, co28, eo28⟩ := Kd.R_slice HO209.out
                    subst eo28
                    go_wp2
                    go_meet
                    case rel => exact ⟨_, (true), (by first | rfl | (simp; done) | (simp [*]; done)), H', ⟨by have := HK1.out; first | omega | exact Nat.le_refl _⟩, ⟨by (with_reducible repeat (first | apply Kd.R_alloc | apply Kd.R_drewN | apply Kd.R_drew)); exact Kd.R_mono HO209.out (fun _ hk => trivial)⟩, ⟨by repeat (first | (with_reducible first | exact HB.out | apply below_alloc | apply pw_below_drewN | apply below_drew1) | exact HB.out)⟩⟩
                · rw [if_neg c23] at H
                  have c23b0 : (t207 == 0) = false := beq_eq_false_iff_ne.mpr c23
                  have c23b1 : (t207 != 0) = true := bne_iff_ne.mpr c23
                  have H' := Aside0.mk H
                  clear H
                  obtain ⟨Ao29, co29, eo29⟩ := Kd.R_slice HO205.out
                  subst eo29
                  go_wp2
                  go_meet
                  case rel => exact ⟨_, (true), (by first | rfl | (simp; done) | (simp [*]; done)), H', ⟨by have := HK1.out; first | omega | exact Nat.le_refl _⟩, ⟨by (with_reducible repeat (first | apply Kd.R_alloc | apply Kd.R_drewN | apply Kd.R_drew)); exact Kd.R_mono HO209.out (fun _ hk => trivial)⟩, ⟨by repeat (first | (with_reducible first | exact HB.out | apply below_alloc | apply pw_below_drewN | apply below_drew1) | exact HB.out)⟩⟩
              · rw [if_neg c22] at H
                have c22b0 : ((t202.length : Int) == 0) = false := beq_eq_false_iff_ne.mpr c22
                have c22b1 : ((t202.length : Int) != 0) = true := bne_iff_ne.mpr c22
                have c22b2 : ¬ (t202 = []) := fun h_ => c22 (by rw [h_]; rfl)
                have H' := Aside0.mk H
                clear H
                obtain ⟨Ao30, co30, eo30⟩ := Kd.R_slice HO205.out
                subst eo30
                go_wp2
                go_meet
                case rel => exact ⟨_, (true), (by first | rfl | (simp; done) | (simp [*]; done)), H', ⟨by have := HK1.out; first | omega | exact Nat.le_refl _⟩, ⟨by (with_reducible repeat (first | apply Kd.R_alloc | apply Kd.R_drewN | apply Kd.R_drew)); exact Kd.R_mono HO209.out (fun _ hk => trivial)⟩, ⟨by repeat (first | (with_reducible first | exact HB.out | apply below_alloc | apply pw_below_drewN | apply below_drew1) | exact HB.out)⟩⟩
            · rw [if_neg c21] at H
              have c21b0 : (t203 == 0) = false := beq_eq_false_iff_ne.mpr c21
              have c21b1 : (t203 != 0) = true := bne_iff_ne.mpr c21
              (first | rw [c21b0] | (simp only [i64_w, i32_w]; rw [c21b0]) | skip)
              have H' := Aside0.mk H
              clear H
              go_wp2
              go_meet
              case rel => exact ⟨_, (true), (by first | rfl | (simp; done) | (simp [*]; done)), H', ⟨by have := HK1.out; first | omega | exact Nat.le_refl _⟩, ⟨by (with_reducible repeat (first | apply Kd.R_alloc | apply Kd.R_drewN | apply Kd.R_drew)); exact Kd.R_mono HO209.out (fun _ hk => trivial)⟩, ⟨by repeat (first | (with_reducible first | exact HB.out | apply below_alloc | apply pw_below_drewN | apply below_drew1) | exact HB.out)⟩⟩
          case rest =>
            clear HC12
            try clear c1
            try clear c2
            try clear p2
            try clear c3
            try clear c3b0
            try clear c3b1
            try clear c4
            try clear c4b0
            try clear c5
            try clear c6
            try clear p6
            try clear c15
            try clear c21
            try clear c21b0
            try clear c21b1
            try clear c22
            try clear c22b0
            try clear c22b1
            try clear c22b2
            try clear c23
            try clear c23b0
            try clear c23b1
            try clear c24
            try clear c24b0
            try clear c24b1
            try clear p2
            obtain ⟨kq, x79_11, rfl, HA, HJ11, HO_10, HB⟩ := hcut
            cases kq with
            | zero => exact absurd HA.out (by simp [ferrulelaw20_ShuffleStill.j1])
            | succ kj11 =>
              have H := HA.out
              clear HA
              simp only [ferrulelaw20_ShuffleStill.j1] at H
              by_cases c31 : x79_11 = true
              · subst c31
                have H1 : (some false) = some r := by rw [if_pos rfl] at H; exact H
                clear H
                have H := H1
                clear H1
                obtain rfl := Option.some.inj H
                go_wp2
                go_ret
                exact ⟨by first | rfl | (simp [errW_none, errW_some] <;> rfl) | (simp [*, errW_none, errW_some] <;> rfl), by repeat (first | (with_reducible first | exact HB.out | apply below_alloc | apply pw_below_drewN | apply below_drew1) | exact HB.out)⟩
              · replace c31 := Bool.eq_false_iff.mpr c31
                subst c31
                have H1 : (ferrulelaw20_ShuffleStill.l1 kj11 (wrap64 (1 + (Go.bits .and .i64 a0 15))) (Int.tmod (wrap64 ((Int.tmod a1 (wrap64 (1 + (Go.bits .and .i64 a0 15)))) + (wrap64 (1 + (Go.bits .and .i64 a0 15))))) (wrap64 (1 + (Go.bits .and .i64 a0 15)))) t206 0) = some r := by rw [if_neg (show ¬ (false = true) by decide)] at H; exact H
                clear H
                have H := H1
                clear H1
                have H' := Aside0.mk H
                clear H
                go_wp2
                go_loopg [14] kj11 (fun kq v14 w' => ∃ (x14_3 : Int), v14 = .int .i64 x14_3 ∧ Aside0 (ferrulelaw20_ShuffleStill.l1 kq (wrap64 (1 + (Go.bits .and .i64 a0 15))) (Int.tmod (wrap64 ((Int.tmod a1 (wrap64 (1 + (Go.bits .and .i64 a0 15)))) + (wrap64 (1 + (Go.bits .and .i64 a0 15))))) (wrap64 (1 + (Go.bits .and .i64 a0 15)))) t206 x14_3 = some r) ∧ Aside0 (kq ≤ kj11) ∧ Aside0 (Kd.R k38 38 w' w.heap.size (fun _ => True) v208 t206) ∧ Aside0 (Below w.heap.size w w'))
                case atStart => exact ⟨(0), (by first | rfl | (simp; done) | (simp [*]; done)), H', ⟨Nat.le_refl _⟩, ⟨by (with_reducible repeat (first | apply Kd.R_alloc | apply Kd.R_drewN | apply Kd.R_drew)); exact HO_10.out⟩, ⟨by repeat (first | (with_reducible first | exact HB.out | apply below_alloc | apply pw_below_drewN | apply below_drew1) | exact HB.out)⟩⟩
                case round =>
                  clear H'
                  try clear c1
                  try clear c2
                  try clear p2
                  try clear c3
                  try clear c3b0
                  try clear c3b1
                  try clear c4
                  try clear c4b0
                  try clear c5
                  try clear c6
                  try clear p6
                  try clear c15
                  try clear c21
                  try clear c21b0
                  try clear c21b1
                  try clear c22
                  try clear c22b0
                  try clear c22b1
                  try clear c22b2
                  try clear c23
                  try clear c23b0
                  try clear c23b1
                  try clear c24
                  try clear c24b0
                  try clear c24b1
                  try clear c31
                  try clear p2
                  try clear p6
                  obtain ⟨x14_3, rfl, HA, HK3, HO_10, HB⟩ := hrel
                  cases gk with
                  | zero => exact absurd HA.out (by simp [ferrulelaw20_ShuffleStill.l1])
                  | succ k3 =>
                    have H := HA.out
                    clear HA
                    simp only [ferrulelaw20_ShuffleStill.l1] at H
                    by_cases c32 : x14_3 < (wrap64 (1 + (Go.bits .and .i64 a0 15)))
                    · rw [if_pos c32] at H
                      have c32b0 : decide (x14_3 < (wrap64 (1 + (Go.bits .and .i64 a0 15)))) = true := decide_eq_true c32
                      clear c32
                      replace H := Option.bind_eq_some_iff.mp H
                      obtain ⟨t217, A330, H⟩ := H
                      replace H : (if t217 = (Int.tmod (wrap64 ((Int.tmod a1 (wrap64 (1 + (Go.bits .and .i64 a0 15)))) + (wrap64 (1 + (Go.bits .and .i64 a0 15))))) (wrap64 (1 + (Go.bits .and .i64 a0 15)))) then (ferrulelaw20_ShuffleStill.l1 k3 (wrap64 (1 + (Go.bits .and .i64 a0 15))) (Int.tmod (wrap64 ((Int.tmod a1 (wrap64 (1 + (Go.bits .and .i64 a0 15)))) + (wrap64 (1 + (Go.bits .and .i64 a0 15))))) (wrap64 (1 + (Go.bits .and .i64 a0 15)))) t206 (wrap64 (x14_3 + 1))) else (some false)) = some r := H
                      have A33 := Aside0.mk A330
                      clear A330
                      by_cases c34 : t217 = (Int.tmod (wrap64 ((Int.tmod a1 (wrap64 (1 + (Go.bits .and .i64 a0 15)))) + (wrap64 (1 + (Go.bits .and .i64 a0 15))))) (wrap64 (1 + (Go.bits .and .i64 a0 15))))
                      · rw [if_pos c34] at H
                        have c34b0 : (t217 == (Int.tmod (wrap64 ((Int.tmod a1 (wrap64 (1 + (Go.bits .and .i64 a0 15)))) + (wrap64 (1 + (Go.bits .and .i64 a0 15))))) (wrap64 (1 + (Go.bits .and .i64 a0 15))))) = true := beq_iff_eq.mpr c34
                        have c34b1 : (t217 != (Int.tmod (wrap64 ((Int.tmod a1 (wrap64 (1 + (Go.bits .and .i64 a0 15)))) + (wrap64 (1 + (Go.bits .and .i64 a0 15))))) (wrap64 (1 + (Go.bits .and .i64 a0 15))))) = false := bne_eq_false_iff_eq.mpr c34
                        clear c34
                        have H' := Aside0.mk H
                        clear H
                        obtain ⟨Ao35, co35, eo35⟩ := Kd.R_slice HO_10.out
                        subst eo35
                        go_wp2_with (first | ((with_reducible refine gate_callee (f := 17) rfl ?_); refine goesL_ (some 87) rfl rfl Try.func17 (by kernel_rfl) rfl #[.slice Ao35 t206.length co35, .int .i64 x14_3] rfl (by (try simp only [List.map_toArray, List.map_cons, List.map_nil]); first | done | rfl | (simp only [List.length_drop, List.length_take]; rfl)) ?_; (with_reducible refine (ferrulelaw20_after.calls k3 _ _ t206 x14_3 t217 _ ?side1 ?side2 A33.out).mono ?_); (case side1 => repeat (first | exact (Kd.R_reads' HO_10.out).2.2 | (with_reducible refine Kd.C_alloc ?_ _) | (with_reducible refine Kd.C_drewN ?_ _) | (with_reducible refine Kd.C_drew ?_))); (case side2 => exact (Kd.R_reads' HO_10.out).2.1); rintro e w36 ⟨rfl, hb⟩; refine ⟨_, rfl, ?_⟩; have n0_ := Aside0.mk (Kd.R_below (by (with_reducible repeat (first | apply Kd.R_alloc | apply Kd.R_drewN | apply Kd.R_drew)); exact HO_10.out) hb); have n1_ := Aside0.mk (below_step (by repeat (first | (with_reducible first | exact HB.out | apply below_alloc | apply pw_below_drewN | apply below_drew1) | exact HB.out)) hb); clear HO_10; clear HB; have HO_10 := n0_; have HB := n1_; clear n0_ n1_; (try clear hb); (try clear hb2); (try clear hk); (try clear hi)))
                        go_roundg k3
                        case measure => have := HK1.out; have := HJ11.out; have := HK3.out; omega
                        case rel => exact ⟨(wrap64 (x14_3 + 1)), (by first | rfl | (simp; done) | (simp [*]; done)), H', ⟨by have := HK1.out; have := HJ11.out; have := HK3.out; omega⟩, ⟨by (with_reducible repeat (first | apply Kd.R_alloc | apply Kd.R_drewN | apply Kd.R_drew)); exact HO_10.out⟩, ⟨by repeat (first | (with_reducible first | exact HB.out | apply below_alloc | apply pw_below_drewN | apply below_drew1) | exact HB.out)⟩⟩
                      · rw [if_neg c34] at H
                        have c34b0 : (t217 == (Int.tmod (wrap64 ((Int.tmod a1 (wrap64 (1 + (Go.bits .and .i64 a0 15)))) + (wrap64 (1 + (Go.bits .and .i64 a0 15))))) (wrap64 (1 + (Go.bits .and .i64 a0 15))))) = false := beq_eq_false_iff_ne.mpr c34
                        have c34b1 : (t217 != (Int.tmod (wrap64 ((Int.tmod a1 (wrap64 (1 + (Go.bits .and .i64 a0 15)))) + (wrap64 (1 + (Go.bits .and .i64 a0 15))))) (wrap64 (1 + (Go.bits .and .i64 a0 15))))) = true := bne_iff_ne.mpr c34
                        obtain rfl := Option.some.inj H
                        obtain ⟨Ao37, co37, eo37⟩ := Kd.R_slice HO_10.out
                        subst eo37
                        go_wp2_with (first | ((with_reducible refine gate_callee (f := 17) rfl ?_); refine goesL_ (some 87) rfl rfl Try.func17 (by kernel_rfl) rfl #[.slice Ao37 t206.length co37, .int .i64 x14_3] rfl (by (try simp only [List.map_toArray, List.map_cons, List.map_nil]); first | done | rfl | (simp only [List.length_drop, List.length_take]; rfl)) ?_; (with_reducible refine (ferrulelaw20_after.calls k3 _ _ t206 x14_3 t217 _ ?side1 ?side2 A33.out).mono ?_); (case side1 => repeat (first | exact (Kd.R_reads' HO_10.out).2.2 | (with_reducible refine Kd.C_alloc ?_ _) | (with_reducible refine Kd.C_drewN ?_ _) | (with_reducible refine Kd.C_drew ?_))); (case side2 => exact (Kd.R_reads' HO_10.out).2.1); rintro e w38 ⟨rfl, hb⟩; refine ⟨_, rfl, ?_⟩; have n0_ := Aside0.mk (Kd.R_below (by (with_reducible repeat (first | apply Kd.R_alloc | apply Kd.R_drewN | apply Kd.R_drew)); exact HO_10.out) hb); have n1_ := Aside0.mk (below_step (by repeat (first | (with_reducible first | exact HB.out | apply below_alloc | apply pw_below_drewN | apply below_drew1) | exact HB.out)) hb); clear HO_10; clear HB; have HO_10 := n0_; have HB := n1_; clear n0_ n1_; (try clear hb); (try clear hb2); (try clear hk); (try clear hi)))
                        go_ret
                        exact ⟨by first | rfl | (simp [errW_none, errW_some] <;> rfl) | (simp [*, errW_none, errW_some] <;> rfl), by repeat (first | (with_reducible first | exact HB.out | apply below_alloc | apply pw_below_drewN | apply below_drew1) | exact HB.out)⟩
                    · rw [if_neg c32] at H
                      have c32b0 : decide (x14_3 < (wrap64 (1 + (Go.bits .and .i64 a0 15)))) = false := decide_eq_false c32
                      clear c32
                      obtain rfl := Option.some.inj H
                      go_wp2
                      go_ret
                      exact ⟨by first | rfl | (simp [errW_none, errW_some] <;> rfl) | (simp [*, errW_none, errW_some] <;> rfl), by repeat (first | (with_reducible first | exact HB.out | apply below_alloc | apply pw_below_drewN | apply below_drew1) | exact HB.out)⟩

/-- THE ONE PURE STATEMENT of ferrulelaw20_ShuffleStill: yours. -/
def ferrulelaw20_ShuffleStill.Pure : Prop := ∀ (a0 : Int) (a1 : Int), (Lit.int .i64 a0).wf = true → (Lit.int .i64 a1).wf = true → ∃ k, ferrulelaw20_ShuffleStill.f k a0 a1 = some true
theorem ferrulelaw20_ShuffleStill.walk (P : ferrulelaw20_ShuffleStill.Pure) (a0 : Int) (a1 : Int) (w : World) (w0 : (Lit.int .i64 a0).wf = true) (w1 : (Lit.int .i64 a1).wf = true) :
    Calls Try.prog 6 #[.int .i64 a0, .int .i64 a1] w fun e w' => e = .returned (.bool true) ∧ Below w.heap.size w w' := by
  obtain ⟨k, h⟩ := P a0 a1 w0 w1
  refine (ferrulelaw20_ShuffleStill.calls k a0 a1 true w h).mono ?_
  rintro e w' ⟨rfl, hd⟩
  exact ⟨rfl, hd⟩

end Go.Proofs.Ytafjbebbmfihaaa.P
