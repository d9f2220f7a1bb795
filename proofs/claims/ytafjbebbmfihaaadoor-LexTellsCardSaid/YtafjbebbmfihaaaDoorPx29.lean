-- Laid by a program of this session over the kit's print. Not trusted: Lean checks it.
import Derived.Test.YtafjbebbmfihaaaDoorPx0
import Derived.Test.YtafjbebbmfihaaaDoorPx22
import Derived.Test.YtafjbebbmfihaaaDoorPx24
import Derived.Test.YtafjbebbmfihaaaDoorPx25
import Derived.Test.YtafjbebbmfihaaaDoorPx26
import Derived.Test.YtafjbebbmfihaaaDoorPx27
import Derived.Test.YtafjbebbmfihaaaDoorPx28
namespace Go.Proofs.YtafjbebbmfihaaaDoor.P
open Go.RowKit Go.Proofs.YtafjbebbmfihaaaDoorW.PrintWords Go.Proofs.YtafjbebbmfihaaaDoorW.PrintLast Go.Proofs.YtafjbebbmfihaaaDoorW.PrintMore
attribute [local go_sem] max2_int min2_int max_two min_two max_three min_three max_four min_four   -- for this text's walks alone
set_option linter.unusedVariables false
set_option linter.unusedSimpArgs false

/-! ### ferruleref02_Lex: function 9 -/
mutual
def ferruleref02_Lex.l0 : Nat → ByteArray → List (S39) → Int → Option ((List (S39)) × Int × Int)
  | 0, _, _, _ => none
  | k + 1, x0, x5, x6 => if x6 < (x0.size : Int) then (if 0 ≤ x6 then ((ferruleref02_letter.f (bt x0 x6)).bind fun t147 => (if t147 = true then (ferruleref02_Lex.j1 k x0 x5 x6 0 4 true) else ((ferruleref02_digit.f (bt x0 x6)).bind fun t148 => (ferruleref02_Lex.j1 k x0 x5 x6 0 4 t148)))) else (none)) else (some (x5, 0, 0))
def ferruleref02_Lex.j1 : Nat → ByteArray → List (S39) → Int → Int → Int → Bool → Option ((List (S39)) × Int × Int)
  | 0, _, _, _, _, _, _ => none
  | k + 1, x0, x5, x6, x7, x8, x31 => if x31 = true then (ferruleref02_Lex.l1 k x0 x5 x6 x7) else (if 0 ≤ x6 then (if x6 ≤ (x0.size : Int) then ((ferruleref02_sign.f k (x0.extract (x6 : Int).toNat x0.size)).bind fun t168 => (if t168 = 0 then (some (([] : List (S39)), x6, 20)) else (if x6 ≤ (wrap64 (x6 + t168)) then (if (wrap64 (x6 + t168)) ≤ (x0.size : Int) then (if x5.length < 4398046511104 then (if 0 ≤ (wrap64 (x6 + t168)) then ((ferruleref02_blank.f k (x0.extract ((wrap64 (x6 + t168)) : Int).toNat x0.size)).bind fun t172 => (ferruleref02_Lex.l0 k x0 (x5 ++ [(⟨x8, x0.extract (x6 : Int).toNat ((wrap64 (x6 + t168)) : Int).toNat, x6⟩ : S39)]) (wrap64 ((wrap64 (x6 + t168)) + t172)))) else (none)) else (none)) else (none)) else (none)))) else (none)) else (none))
def ferruleref02_Lex.j3 : Nat → ByteArray → List (S39) → Int → Int → Option ((List (S39)) × Int × Int)
  | 0, _, _, _, _ => none
  | k + 1, x0, x5, x6, x7 => if 0 ≤ x6 then (if x6 ≤ (wrap64 (x6 + x7)) then (if (wrap64 (x6 + x7)) ≤ (x0.size : Int) then (if x6 < (x0.size : Int) then ((ferruleref02_digit.f (bt x0 x6)).bind fun t151 => (if t151 = true then ((ferruleref02_Number.f k (x0.extract (x6 : Int).toNat ((wrap64 (x6 + x7)) : Int).toNat)).bind fun bt152 => (if bt152.2.2 = 0 then (if x5.length < 4398046511104 then (if 0 ≤ (wrap64 (x6 + x7)) then ((ferruleref02_blank.f k (x0.extract ((wrap64 (x6 + x7)) : Int).toNat x0.size)).bind fun t158 => (ferruleref02_Lex.l0 k x0 (x5 ++ [(⟨2, x0.extract (x6 : Int).toNat ((wrap64 (x6 + x7)) : Int).toNat, x6⟩ : S39)]) (wrap64 ((wrap64 (x6 + x7)) + t158)))) else (none)) else (none)) else (some (([] : List (S39)), x6, bt152.2.2)))) else (if x7 > 40 then (some (([] : List (S39)), x6, 20)) else ((ferruleref02_Word.f k (x0.extract (x6 : Int).toNat ((wrap64 (x6 + x7)) : Int).toNat)).bind fun t159 => (if t159 = true then (if x5.length < 4398046511104 then (if 0 ≤ (wrap64 (x6 + x7)) then ((ferruleref02_blank.f k (x0.extract ((wrap64 (x6 + x7)) : Int).toNat x0.size)).bind fun t163 => (ferruleref02_Lex.l0 k x0 (x5 ++ [(⟨3, x0.extract (x6 : Int).toNat ((wrap64 (x6 + x7)) : Int).toNat, x6⟩ : S39)]) (wrap64 ((wrap64 (x6 + x7)) + t163)))) else (none)) else (none)) else (if x5.length < 4398046511104 then (if 0 ≤ (wrap64 (x6 + x7)) then ((ferruleref02_blank.f k (x0.extract ((wrap64 (x6 + x7)) : Int).toNat x0.size)).bind fun t167 => (ferruleref02_Lex.l0 k x0 (x5 ++ [(⟨1, x0.extract (x6 : Int).toNat ((wrap64 (x6 + x7)) : Int).toNat, x6⟩ : S39)]) (wrap64 ((wrap64 (x6 + x7)) + t167)))) else (none)) else (none))))))) else (none)) else (none)) else (none)) else (none)
def ferruleref02_Lex.l1 : Nat → ByteArray → List (S39) → Int → Int → Option ((List (S39)) × Int × Int)
  | 0, _, _, _, _ => none
  | k + 1, x0, x5, x6, x7 => if (wrap64 (x6 + x7)) < (x0.size : Int) then (if 0 ≤ (wrap64 (x6 + x7)) then ((ferruleref02_letter.f (bt x0 (wrap64 (x6 + x7)))).bind fun t149 => (if t149 = true then (ferruleref02_Lex.l1 k x0 x5 x6 (wrap64 (x7 + 1))) else ((ferruleref02_digit.f (bt x0 (wrap64 (x6 + x7)))).bind fun t150 => (if t150 = true then (ferruleref02_Lex.l1 k x0 x5 x6 (wrap64 (x7 + 1))) else (ferruleref02_Lex.j3 k x0 x5 x6 x7))))) else (none)) else (ferruleref02_Lex.j3 k x0 x5 x6 x7)
end
def ferruleref02_Lex.f (k : Nat) (a0 : ByteArray) : Option ((List (S39)) × Int × Int) := if (a0.size : Int) > 65536 then (some (([] : List (S39)), 0, 3)) else ((ferruleref02_blank.f k a0).bind fun t146 => (ferruleref02_Lex.l0 k a0 ([] : List (S39)) t146))
theorem ferruleref02_Lex.mono_l : ∀ k, (∀ y0 y1 y2, LeO (ferruleref02_Lex.l0 k y0 y1 y2) (ferruleref02_Lex.l0 (k + 1) y0 y1 y2)) ∧ (∀ y0 y1 y2 y3 y4 y5, LeO (ferruleref02_Lex.j1 k y0 y1 y2 y3 y4 y5) (ferruleref02_Lex.j1 (k + 1) y0 y1 y2 y3 y4 y5)) ∧ (∀ y0 y1 y2 y3, LeO (ferruleref02_Lex.j3 k y0 y1 y2 y3) (ferruleref02_Lex.j3 (k + 1) y0 y1 y2 y3)) ∧ (∀ y0 y1 y2 y3, LeO (ferruleref02_Lex.l1 k y0 y1 y2 y3) (ferruleref02_Lex.l1 (k + 1) y0 y1 y2 y3))
  | 0 => ⟨fun _ _ _ r h => by simp [ferruleref02_Lex.l0] at h, fun _ _ _ _ _ _ r h => by simp [ferruleref02_Lex.j1] at h, fun _ _ _ _ r h => by simp [ferruleref02_Lex.j3] at h, fun _ _ _ _ r h => by simp [ferruleref02_Lex.l1] at h⟩
  | k + 1 => by
    obtain ⟨ih0, ih1, ih2, ih3⟩ := ferruleref02_Lex.mono_l k
    refine ⟨?_, ?_, ?_, ?_⟩
    · intro y0 y1 y2
      unfold ferruleref02_Lex.l0
      repeat' first
      | (with_reducible exact ih0 _ _ _)
      | (with_reducible exact ih1 _ _ _ _ _ _)
      | (with_reducible exact ih2 _ _ _ _)
      | (with_reducible exact ih3 _ _ _ _)
      | (with_reducible exact ferruleref02_Number.mono _ _)
      | (with_reducible exact ferruleref02_Word.mono _ _)
      | (with_reducible exact ferruleref02_blank.mono _ _)
      | (with_reducible exact ferruleref02_sign.mono _ _)
      | (with_reducible exact LeO.refl _)
      | (with_reducible exact LeO.none _)
      | (with_reducible refine LeO.ite ?_ ?_)
      | (with_reducible refine LeO.bind ?_ (fun _ => ?_))
      | exact ih0 _ _ _
      | exact ih1 _ _ _ _ _ _
      | exact ih2 _ _ _ _
      | exact ih3 _ _ _ _
      | exact ferruleref02_Number.mono _ _
      | exact ferruleref02_Word.mono _ _
      | exact ferruleref02_blank.mono _ _
      | exact ferruleref02_sign.mono _ _
      | exact LeO.none _
      | refine LeO.ite ?_ ?_
      | refine LeO.bind ?_ (fun _ => ?_)
    · intro y0 y1 y2 y3 y4 y5
      unfold ferruleref02_Lex.j1
      repeat' first
      | (with_reducible exact ih0 _ _ _)
      | (with_reducible exact ih1 _ _ _ _ _ _)
      | (with_reducible exact ih2 _ _ _ _)
      | (with_reducible exact ih3 _ _ _ _)
      | (with_reducible exact ferruleref02_Number.mono _ _)
      | (with_reducible exact ferruleref02_Word.mono _ _)
      | (with_reducible exact ferruleref02_blank.mono _ _)
      | (with_reducible exact ferruleref02_sign.mono _ _)
      | (with_reducible exact LeO.refl _)
      | (with_reducible exact LeO.none _)
      | (with_reducible refine LeO.ite ?_ ?_)
      | (with_reducible refine LeO.bind ?_ (fun _ => ?_))
      | exact ih0 _ _ _
      | exact ih1 _ _ _ _ _ _
      | exact ih2 _ _ _ _
      | exact ih3 _ _ _ _
      | exact ferruleref02_Number.mono _ _
      | exact ferruleref02_Word.mono _ _
      | exact ferruleref02_blank.mono _ _
      | exact ferruleref02_sign.mono _ _
      | exact LeO.none _
      | refine LeO.ite ?_ ?_
      | refine LeO.bind ?_ (fun _ => ?_)
    · intro y0 y1 y2 y3
      unfold ferruleref02_Lex.j3
      repeat' first
      | (with_reducible exact ih0 _ _ _)
      | (with_reducible exact ih1 _ _ _ _ _ _)
      | (with_reducible exact ih2 _ _ _ _)
      | (with_reducible exact ih3 _ _ _ _)
      | (with_reducible exact ferruleref02_Number.mono _ _)
      | (with_reducible exact ferruleref02_Word.mono _ _)
      | (with_reducible exact ferruleref02_blank.mono _ _)
      | (with_reducible exact ferruleref02_sign.mono _ _)
      | (with_reducible exact LeO.refl _)
      | (with_reducible exact LeO.none _)
      | (with_reducible refine LeO.ite ?_ ?_)
      | (with_reducible refine LeO.bind ?_ (fun _ => ?_))
      | exact ih0 _ _ _
      | exact ih1 _ _ _ _ _ _
      | exact ih2 _ _ _ _
      | exact ih3 _ _ _ _
      | exact ferruleref02_Number.mono _ _
      | exact ferruleref02_Word.mono _ _
      | exact ferruleref02_blank.mono _ _
      | exact ferruleref02_sign.mono _ _
      | exact LeO.none _
      | refine LeO.ite ?_ ?_
      | refine LeO.bind ?_ (fun _ => ?_)
    · intro y0 y1 y2 y3
      unfold ferruleref02_Lex.l1
      repeat' first
      | (with_reducible exact ih0 _ _ _)
      | (with_reducible exact ih1 _ _ _ _ _ _)
      | (with_reducible exact ih2 _ _ _ _)
      | (with_reducible exact ih3 _ _ _ _)
      | (with_reducible exact ferruleref02_Number.mono _ _)
      | (with_reducible exact ferruleref02_Word.mono _ _)
      | (with_reducible exact ferruleref02_blank.mono _ _)
      | (with_reducible exact ferruleref02_sign.mono _ _)
      | (with_reducible exact LeO.refl _)
      | (with_reducible exact LeO.none _)
      | (with_reducible refine LeO.ite ?_ ?_)
      | (with_reducible refine LeO.bind ?_ (fun _ => ?_))
      | exact ih0 _ _ _
      | exact ih1 _ _ _ _ _ _
      | exact ih2 _ _ _ _
      | exact ih3 _ _ _ _
      | exact ferruleref02_Number.mono _ _
      | exact ferruleref02_Word.mono _ _
      | exact ferruleref02_blank.mono _ _
      | exact ferruleref02_sign.mono _ _
      | exact LeO.none _
      | refine LeO.ite ?_ ?_
      | refine LeO.bind ?_ (fun _ => ?_)
theorem ferruleref02_Lex.mono : ∀ a0 k, LeO (ferruleref02_Lex.f k a0) (ferruleref02_Lex.f (k + 1) a0) := by
  intro a0 k
  obtain ⟨ih0, ih1, ih2, ih3⟩ := ferruleref02_Lex.mono_l k
  unfold ferruleref02_Lex.f
  repeat' first
      | (with_reducible exact ih0 _ _ _)
      | (with_reducible exact ih1 _ _ _ _ _ _)
      | (with_reducible exact ih2 _ _ _ _)
      | (with_reducible exact ih3 _ _ _ _)
      | (with_reducible exact ferruleref02_Number.mono _ _)
      | (with_reducible exact ferruleref02_Word.mono _ _)
      | (with_reducible exact ferruleref02_blank.mono _ _)
      | (with_reducible exact ferruleref02_sign.mono _ _)
      | (with_reducible exact LeO.refl _)
      | (with_reducible exact LeO.none _)
      | (with_reducible refine LeO.ite ?_ ?_)
      | (with_reducible refine LeO.bind ?_ (fun _ => ?_))
      | exact ih0 _ _ _
      | exact ih1 _ _ _ _ _ _
      | exact ih2 _ _ _ _
      | exact ih3 _ _ _ _
      | exact ferruleref02_Number.mono _ _
      | exact ferruleref02_Word.mono _ _
      | exact ferruleref02_blank.mono _ _
      | exact ferruleref02_sign.mono _ _
      | exact LeO.none _
      | refine LeO.ite ?_ ?_
      | refine LeO.bind ?_ (fun _ => ?_)
set_option maxHeartbeats 8000000 in
set_option maxRecDepth 100000 in
theorem ferruleref02_Lex.calls (k : Nat) (a0 : ByteArray) (r1 : List (S39)) (r2 : Int) (r3 : Int) (w : World) (h : ferruleref02_Lex.f k a0 = some (r1, r2, r3)) :
    Calls Tryd.prog 9 #[.string a0] w fun e w' => ∃ v0_ : Value, e = .returned (.tuple #[v0_, .int .i64 r2, .int .i64 r3]) ∧ Kd.R k39 39 w' w.heap.size (fun _ => True) v0_ r1 ∧ Below w.heap.size w w' := by
  have hu39 := Tryd.underlying39
  have HB := Aside0.mk (Below.refl w.heap.size w)
  have H : (if (a0.size : Int) > 65536 then (some (([] : List (S39)), 0, 3)) else ((ferruleref02_blank.f k a0).bind fun t146 => (ferruleref02_Lex.l0 k a0 ([] : List (S39)) t146))) = some (r1, r2, r3) := h
  clear h
  by_cases c2 : (a0.size : Int) > 65536
  · rw [if_pos c2] at H
    have c2b0 : decide (65536 < (a0.size : Int)) = true := decide_eq_true c2
    have c2b1 : decide (65536 < a0.size) = true := decide_eq_true (by omega)
    clear c2
    simp only [Option.some.injEq, Prod.mk.injEq] at H
    obtain ⟨rfl, rfl, rfl⟩ := H
    go_enter Tryd.func9, Tryd.ntmps9
    go_wp2
    go_ret3
    exact ⟨_, by first | rfl | (simp [errW_none, errW_some] <;> rfl) | (simp [*, errW_none, errW_some] <;> rfl), by first | exact Kd.R_nil _ _ _ _ _ | exact Kd.N_nil _ _ _ _ _ | exact Kd.V_nil _ _ _ _ _ | exact Kd.Q_nil _ _ _ _ _ | exact Kd.S_nil _ _ _ _ _, by repeat (first | (with_reducible first | exact HB.out | apply below_alloc | apply pw_below_drewN | apply below_drew1) | exact HB.out)⟩
  · rw [if_neg c2] at H
    have c2b0 : decide (65536 < (a0.size : Int)) = false := decide_eq_false c2
    have c2b1 : decide (65536 < a0.size) = false := decide_eq_false (by omega)
    clear c2
    replace H := Option.bind_eq_some_iff.mp H
    obtain ⟨t146, A30, H⟩ := H
    replace H : (ferruleref02_Lex.l0 k a0 ([] : List (S39)) t146) = some (r1, r2, r3) := H
    have A3 := Aside0.mk A30
    clear A30
    have H' := Aside0.mk H
    clear H
    go_enter Tryd.func9, Tryd.ntmps9
    go_wp2_with (first | ((with_reducible refine gate_callee (f := 19) rfl ?_); refine goesL_ (some 17) rfl rfl Tryd.func19 (by kernel_rfl) rfl #[.string a0] rfl (by (try simp only [List.map_toArray, List.map_cons, List.map_nil]); first | done | rfl | (simp only [List.length_drop, List.length_take]; rfl)) ?_; (with_reducible refine (ferruleref02_blank.calls k a0 t146 _ A3.out).mono ?_); rintro e w' ⟨rfl, ⟨nd, rfl⟩⟩; refine ⟨_, rfl, ?_⟩))
    go_loopg [5, 6] k (fun kq v5 v6 w' => ∃ (x5_1 : List (S39)) (x6_1 : Int), v6 = .int .i64 x6_1 ∧ Aside0 (ferruleref02_Lex.l0 kq a0 x5_1 x6_1 = some (r1, r2, r3)) ∧ Aside0 (kq ≤ k) ∧ Aside0 (Kd.R k39 39 w' w.heap.size (fun _ => True) v5 x5_1) ∧ Aside0 (Below w.heap.size w w'))
    case atStart => exact ⟨(([] : List (S39))), (t146), (by first | rfl | (simp; done) | (simp [*]; done)), H', ⟨Nat.le_refl _⟩, ⟨by first | exact Kd.R_nil _ _ _ _ _ | exact Kd.N_nil _ _ _ _ _ | exact Kd.V_nil _ _ _ _ _ | exact Kd.Q_nil _ _ _ _ _ | exact Kd.S_nil _ _ _ _ _⟩, ⟨by repeat (first | (with_reducible first | exact HB.out | apply below_alloc | apply pw_below_drewN | apply below_drew1) | exact HB.out)⟩⟩
    case round =>
      clear H'
      try clear c1
      try clear c2
      try clear c2b0
      try clear c2b1
      try clear p2
      obtain ⟨x5_1, x6_1, rfl, HA, HK1, HO_5, HB⟩ := hrel
      cases gk with
      | zero => exact absurd HA.out (by simp [ferruleref02_Lex.l0])
      | succ k1 =>
        have H := HA.out
        clear HA
        simp only [ferruleref02_Lex.l0] at H
        by_cases c4 : x6_1 < (a0.size : Int)
        · rw [if_pos c4] at H
          have c4b0 : decide (x6_1 < (a0.size : Int)) = true := decide_eq_true c4
          clear c4
          have HC5 := Aside0.mk H
          clear H
          go_upto_region 8 with (fail)
          go_cut [31] (fun v31 wc => ∃ (kq : Nat) (x31_4 : Bool), v31 = .bool x31_4 ∧ Aside0 (ferruleref02_Lex.j1 kq a0 x5_1 x6_1 0 4 x31_4 = some (r1, r2, r3)) ∧ Aside0 (kq ≤ k1) ∧ Aside0 (Kd.R k39 39 wc w.heap.size (fun _ => True) u5 x5_1) ∧ Aside0 (Below w.heap.size w wc))
          case first =>
            have H := HC5.out
            clear HC5
            by_cases c6 : 0 ≤ x6_1
            · rw [if_pos c6] at H
              have c6b0 : decide (0 ≤ x6_1) = true := decide_eq_true c6
              clear c6
              (first | rw [c6b0] | (simp only [i64_w, i32_w]; rw [c6b0]) | skip)
              replace H := Option.bind_eq_some_iff.mp H
              obtain ⟨t147, A80, H⟩ := H
              replace H : (if t147 = true then (ferruleref02_Lex.j1 k1 a0 x5_1 x6_1 0 4 true) else ((ferruleref02_digit.f (bt a0 x6_1)).bind fun t148 => (ferruleref02_Lex.j1 k1 a0 x5_1 x6_1 0 4 t148))) = some (r1, r2, r3) := H
              have A8 := Aside0.mk A80
              clear A80
              by_cases c9 : t147 = true
              · subst c9
                have H1 : (ferruleref02_Lex.j1 k1 a0 x5_1 x6_1 0 4 true) = some (r1, r2, r3) := by rw [if_pos rfl] at H; exact H
                clear H
                have H := H1
                clear H1
                have H' := Aside0.mk H
                clear H
                have p7 : 0 ≤ (x6_1 : Int) := of_decide_eq_true (by first | (with_reducible assumption) | assumption)
                have q7 : x6_1 < (a0.size : Int) := of_decide_eq_true (by first | (with_reducible assumption) | assumption)
                have hx7 := bt_at a0 x6_1
                replace p7 := eq_true p7
                replace q7 := eq_true q7
                go_wp2_with (first | ((with_reducible refine gate_callee (f := 20) rfl ?_); refine goesL_ (some 25) rfl rfl Tryd.func20 (by kernel_rfl) rfl #[.int .u8 (bt a0 x6_1)] rfl (by (try simp only [List.map_toArray, List.map_cons, List.map_nil]); first | done | rfl | (simp only [List.length_drop, List.length_take]; rfl)) ?_; (with_reducible refine (ferruleref02_letter.calls (bt a0 x6_1) true _ A8.out).mono ?_); rintro e w' ⟨rfl, ⟨nd, rfl⟩⟩; refine ⟨_, rfl, ?_⟩))
                go_meet
                case rel => exact ⟨_, (true), (by first | rfl | (simp; done) | (simp [*]; done)), H', ⟨by have := HK1.out; first | omega | exact Nat.le_refl _⟩, ⟨by (with_reducible repeat (first | apply Kd.R_alloc | apply Kd.R_drewN | apply Kd.R_drew)); exact HO_5.out⟩, ⟨by repeat (first | (with_reducible first | exact HB.out | apply below_alloc | apply pw_below_drewN | apply below_drew1) | exact HB.out)⟩⟩
              · replace c9 := Bool.eq_false_iff.mpr c9
                subst c9
                have H1 : ((ferruleref02_digit.f (bt a0 x6_1)).bind fun t148 => (ferruleref02_Lex.j1 k1 a0 x5_1 x6_1 0 4 t148)) = some (r1, r2, r3) := by rw [if_neg (show ¬ (false = true) by decide)] at H; exact H
                clear H
                have H := H1
                clear H1
                replace H := Option.bind_eq_some_iff.mp H
                obtain ⟨t148, A110, H⟩ := H
                replace H : (ferruleref02_Lex.j1 k1 a0 x5_1 x6_1 0 4 t148) = some (r1, r2, r3) := H
                have A11 := Aside0.mk A110
                clear A110
                have H' := Aside0.mk H
                clear H
                have p7 : 0 ≤ (x6_1 : Int) := of_decide_eq_true (by first | (with_reducible assumption) | assumption)
                have q7 : x6_1 < (a0.size : Int) := of_decide_eq_true (by first | (with_reducible assumption) | assumption)
                have hx7 := bt_at a0 x6_1
                replace p7 := eq_true p7
                replace q7 := eq_true q7
                go_wp2_with (first | ((with_reducible refine gate_callee (f := 20) rfl ?_); refine goesL_ (some 25) rfl rfl Tryd.func20 (by kernel_rfl) rfl #[.int .u8 (bt a0 x6_1)] rfl (by (try simp only [List.map_toArray, List.map_cons, List.map_nil]); first | done | rfl | (simp only [List.length_drop, List.length_take]; rfl)) ?_; (with_reducible refine (ferruleref02_letter.calls (bt a0 x6_1) false _ A8.out).mono ?_); rintro e w' ⟨rfl, ⟨nd, rfl⟩⟩; refine ⟨_, rfl, ?_⟩; have p10 : 0 ≤ (x6_1 : Int) := of_decide_eq_true (by first | (with_reducible assumption) | assumption); have q10 : x6_1 < (a0.size : Int) := of_decide_eq_true (by first | (with_reducible assumption) | assumption); have hx10 := bt_at a0 x6_1; replace p10 := eq_true p10; replace q10 := eq_true q10) | (go_at_call 21; (with_reducible refine (ferruleref02_digit.calls (bt a0 x6_1) t148 _ A11.out).mono ?_); rintro e w' ⟨rfl, ⟨nd, rfl⟩⟩))
                go_meet
                case rel => exact ⟨_, (t148), (by first | rfl | (simp; done) | (simp [*]; done)), H', ⟨by have := HK1.out; first | omega | exact Nat.le_refl _⟩, ⟨by (with_reducible repeat (first | apply Kd.R_alloc | apply Kd.R_drewN | apply Kd.R_drew)); exact HO_5.out⟩, ⟨by repeat (first | (with_reducible first | exact HB.out | apply below_alloc | apply pw_below_drewN | apply below_drew1) | exact HB.out)⟩⟩
            · rw [if_neg c6] at H
              exact absurd H (by simp)
          case rest =>
            clear HC5
            try clear c1
            try clear p1
            try clear q1
            try clear hx1
            try clear c2
            try clear c2b0
            try clear c2b1
            try clear p2
            try clear c4
            try clear c4b0
            try clear c6
            try clear c6b0
            try clear p7
            try clear q7
            try clear hx7
            try clear c9
            try clear p10
            try clear q10
            try clear hx10
            try clear p10
            try clear p2
            try clear p7
            try clear q10
            try clear q7
            obtain ⟨kq, x31_4, rfl, HA, HJ4, HO_5, HB⟩ := hcut
            cases kq with
            | zero => exact absurd HA.out (by simp [ferruleref02_Lex.j1])
            | succ kj4 =>
              have H := HA.out
              clear HA
              simp only [ferruleref02_Lex.j1] at H
              by_cases c12 : x31_4 = true
              · subst c12
                have H1 : (ferruleref02_Lex.l1 kj4 a0 x5_1 x6_1 0) = some (r1, r2, r3) := by rw [if_pos rfl] at H; exact H
                clear H
                have H := H1
                clear H1
                have HC13 := Aside0.mk H
                clear H
                go_upto_block 2 with (fail)
                go_cut [7] (fun v7 wc => ∃ (kq : Nat) (x7_12 : Int), v7 = .int .i64 x7_12 ∧ Aside0 (ferruleref02_Lex.j3 kq a0 x5_1 x6_1 x7_12 = some (r1, r2, r3)) ∧ Aside0 (kq ≤ kj4) ∧ Aside0 (Kd.R k39 39 wc w.heap.size (fun _ => True) u5 x5_1) ∧ Aside0 (Below w.heap.size w wc))
                case first =>
                  have H := HC13.out
                  clear HC13
                  have H' := Aside0.mk H
                  clear H
                  go_wp2
                  go_loopg [7] kj4 (fun kq v7 w' => ∃ (x7_3 : Int), v7 = .int .i64 x7_3 ∧ Aside0 (ferruleref02_Lex.l1 kq a0 x5_1 x6_1 x7_3 = some (r1, r2, r3)) ∧ Aside0 (kq ≤ kj4) ∧ Aside0 (Kd.R k39 39 w' w.heap.size (fun _ => True) u5 x5_1) ∧ Aside0 (Below w.heap.size w w'))
                  case atStart => exact ⟨(0), (by first | rfl | (simp; done) | (simp [*]; done)), H', ⟨Nat.le_refl _⟩, ⟨by (with_reducible repeat (first | apply Kd.R_alloc | apply Kd.R_drewN | apply Kd.R_drew)); exact HO_5.out⟩, ⟨by repeat (first | (with_reducible first | exact HB.out | apply below_alloc | apply pw_below_drewN | apply below_drew1) | exact HB.out)⟩⟩
                  case round =>
                    clear H'
                    try clear c1
                    try clear p1
                    try clear q1
                    try clear hx1
                    try clear c2
                    try clear c2b0
                    try clear c2b1
                    try clear p2
                    try clear c4
                    try clear c4b0
                    try clear c6
                    try clear c6b0
                    try clear p7
                    try clear q7
                    try clear hx7
                    try clear c9
                    try clear p10
                    try clear q10
                    try clear hx10
                    try clear c12
                    try clear p1
                    try clear p10
                    try clear p2
                    try clear p7
                    try clear q1
                    try clear q10
                    try clear q7
                    obtain ⟨x7_3, rfl, HA, HK3, HO_5, HB⟩ := hrel
                    cases gk with
                    | zero => exact absurd HA.out (by simp [ferruleref02_Lex.l1])
                    | succ k3 =>
                      have H := HA.out
                      clear HA
                      simp only [ferruleref02_Lex.l1] at H
                      by_cases c14 : (wrap64 (x6_1 + x7_3)) < (a0.size : Int)
                      · rw [if_pos c14] at H
                        have c14b0 : decide ((wrap64 (x6_1 + x7_3)) < (a0.size : Int)) = true := decide_eq_true c14
                        clear c14
                        (first | rw [c14b0] | (simp only [i64_w, i32_w]; rw [c14b0]) | skip)
                        obtain ⟨ji15, hji15⟩ : ∃ j_ : Int, (wrap64 (x6_1 + x7_3)) = j_ := ⟨_, rfl⟩
                        replace H : (if 0 ≤ (ji15) then ((ferruleref02_letter.f (bt a0 (ji15))).bind fun t149 => (if t149 = true then (ferruleref02_Lex.l1 k3 a0 x5_1 x6_1 (wrap64 (x7_3 + 1))) else ((ferruleref02_digit.f (bt a0 (ji15))).bind fun t150 => (if t150 = true then (ferruleref02_Lex.l1 k3 a0 x5_1 x6_1 (wrap64 (x7_3 + 1))) else (ferruleref02_Lex.j3 k3 a0 x5_1 x6_1 x7_3))))) else (none)) = some (r1, r2, r3) := by first | (rw [hji15] at H; exact H) | (simp only [hji15] at H ⊢; exact H)
                        (try rw [hji15] at c14b0)
                        have hji15w : (IntKind.i64.wrap (x6_1 + x7_3)) = ji15 := (i64_w _).trans hji15
                        by_cases c16 : 0 ≤ (ji15)
                        · rw [if_pos c16] at H
                          have c16b0 : decide (0 ≤ (ji15)) = true := decide_eq_true c16
                          clear c16
                          replace H := Option.bind_eq_some_iff.mp H
                          obtain ⟨t149, A180, H⟩ := H
                          replace H : (if t149 = true then (ferruleref02_Lex.l1 k3 a0 x5_1 x6_1 (wrap64 (x7_3 + 1))) else ((ferruleref02_digit.f (bt a0 (ji15))).bind fun t150 => (if t150 = true then (ferruleref02_Lex.l1 k3 a0 x5_1 x6_1 (wrap64 (x7_3 + 1))) else (ferruleref02_Lex.j3 k3 a0 x5_1 x6_1 x7_3)))) = some (r1, r2, r3) := H
                          have A18 := Aside0.mk A180
                          clear A180
                          by_cases c19 : t149 = true
                          · subst c19
                            have H1 : (ferruleref02_Lex.l1 k3 a0 x5_1 x6_1 (wrap64 (x7_3 + 1))) = some (r1, r2, r3) := by rw [if_pos rfl] at H; exact H
                            clear H
                            have H := H1
                            clear H1
                            have H' := Aside0.mk H
                            clear H
                            have p17 : 0 ≤ ((ji15) : Int) := of_decide_eq_true (by first | (with_reducible assumption) | assumption)
                            have q17 : (ji15) < (a0.size : Int) := of_decide_eq_true (by first | (with_reducible assumption) | assumption)
                            have hx17 := bt_at a0 (ji15)
                            replace p17 := eq_true p17
                            replace q17 := eq_true q17
                            go_wp2_with (first | (go_at_call 20; (with_reducible refine (ferruleref02_letter.calls (bt a0 (ji15)) true _ A18.out).mono ?_); rintro e w' ⟨rfl, ⟨nd, rfl⟩⟩))
                            go_roundg k3
                            case measure => have := HK1.out; have := HJ4.out; have := HK3.out; omega
                            case rel => exact ⟨(wrap64 (x7_3 + 1)), (by first | rfl | (simp; done) | (simp [*]; done)), H', ⟨by have := HK1.out; have := HJ4.out; have := HK3.out; omega⟩, ⟨by (with_reducible repeat (first | apply Kd.R_alloc | apply Kd.R_drewN | apply Kd.R_drew)); exact HO_5.out⟩, ⟨by repeat (first | (with_reducible first | exact HB.out | apply below_alloc | apply pw_below_drewN | apply below_drew1) | exact HB.out)⟩⟩
                          · replace c19 := Bool.eq_false_iff.mpr c19
                            subst c19
                            have H1 : ((ferruleref02_digit.f (bt a0 (ji15))).bind fun t150 => (if t150 = true then (ferruleref02_Lex.l1 k3 a0 x5_1 x6_1 (wrap64 (x7_3 + 1))) else (ferruleref02_Lex.j3 k3 a0 x5_1 x6_1 x7_3))) = some (r1, r2, r3) := by rw [if_neg (show ¬ (false = true) by decide)] at H; exact H
                            clear H
                            have H := H1
                            clear H1
                            replace H := Option.bind_eq_some_iff.mp H
                            obtain ⟨t150, A210, H⟩ := H
                            replace H : (if t150 = true then (ferruleref02_Lex.l1 k3 a0 x5_1 x6_1 (wrap64 (x7_3 + 1))) else (ferruleref02_Lex.j3 k3 a0 x5_1 x6_1 x7_3)) = some (r1, r2, r3) := H
                            have A21 := Aside0.mk A210
                            clear A210
                            by_cases c22 : t150 = true
                            · subst c22
                              have H1 : (ferruleref02_Lex.l1 k3 a0 x5_1 x6_1 (wrap64 (x7_3 + 1))) = some (r1, r2, r3) := by rw [if_pos rfl] at H; exact H
                              clear H
                              have H := H1
                              clear H1
                              have H' := Aside0.mk H
                              clear H
                              have p17 : 0 ≤ ((ji15) : Int) := of_decide_eq_true (by first | (with_reducible assumption) | assumption)
                              have q17 : (ji15) < (a0.size : Int) := of_decide_eq_true (by first | (with_reducible assumption) | assumption)
                              have hx17 := bt_at a0 (ji15)
                              replace p17 := eq_true p17
                              replace q17 := eq_true q17
                              go_wp2_with (first | (go_at_call 20; (with_reducible refine (ferruleref02_letter.calls (bt a0 (ji15)) false _ A18.out).mono ?_); rintro e w' ⟨rfl, ⟨nd, rfl⟩⟩; have p20 : 0 ≤ ((ji15) : Int) := of_decide_eq_true (by first | (with_reducible assumption) | assumption); have q20 : (ji15) < (a0.size : Int) := of_decide_eq_true (by first | (with_reducible assumption) | assumption); have hx20 := bt_at a0 (ji15); replace p20 := eq_true p20; replace q20 := eq_true q20) | (go_at_call 21; (with_reducible refine (ferruleref02_digit.calls (bt a0 (ji15)) true _ A21.out).mono ?_); rintro e w' ⟨rfl, ⟨nd, rfl⟩⟩))
                              go_roundg k3
                              case measure => have := HK1.out; have := HJ4.out; have := HK3.out; omega
                              case rel => exact ⟨(wrap64 (x7_3 + 1)), (by first | rfl | (simp; done) | (simp [*]; done)), H', ⟨by have := HK1.out; have := HJ4.out; have := HK3.out; omega⟩, ⟨by (with_reducible repeat (first | apply Kd.R_alloc | apply Kd.R_drewN | apply Kd.R_drew)); exact HO_5.out⟩, ⟨by repeat (first | (with_reducible first | exact HB.out | apply below_alloc | apply pw_below_drewN | apply below_drew1) | exact HB.out)⟩⟩
                            · replace c22 := Bool.eq_false_iff.mpr c22
                              subst c22
                              have H1 : (ferruleref02_Lex.j3 k3 a0 x5_1 x6_1 x7_3) = some (r1, r2, r3) := by rw [if_neg (show ¬ (false = true) by decide)] at H; exact H
                              clear H
                              have H := H1
                              clear H1
                              have H' := Aside0.mk H
                              clear H
                              have p17 : 0 ≤ ((ji15) : Int) := of_decide_eq_true (by first | (with_reducible assumption) | assumption)
                              have q17 : (ji15) < (a0.size : Int) := of_decide_eq_true (by first | (with_reducible assumption) | assumption)
                              have hx17 := bt_at a0 (ji15)
                              replace p17 := eq_true p17
                              replace q17 := eq_true q17
                              go_wp2_with (first | (go_at_call 20; (with_reducible refine (ferruleref02_letter.calls (bt a0 (ji15)) false _ A18.out).mono ?_); rintro e w' ⟨rfl, ⟨nd, rfl⟩⟩; have p20 : 0 ≤ ((ji15) : Int) := of_decide_eq_true (by first | (with_reducible assumption) | assumption); have q20 : (ji15) < (a0.size : Int) := of_decide_eq_true (by first | (with_reducible assumption) | assumption); have hx20 := bt_at a0 (ji15); replace p20 := eq_true p20; replace q20 := eq_true q20) | (go_at_call 21; (with_reducible refine (ferruleref02_digit.calls (bt a0 (ji15)) false _ A21.out).mono ?_); rintro e w' ⟨rfl, ⟨nd, rfl⟩⟩))
                              go_meet
                              case rel => exact ⟨_, (x7_3), (by first | rfl | (simp; done) | (simp [*]; done)), H', ⟨by have := HK1.out; have := HJ4.out; have := HK3.out; first | omega | exact Nat.le_refl _⟩, ⟨by (with_reducible repeat (first | apply Kd.R_alloc | apply Kd.R_drewN | apply Kd.R_drew)); exact HO_5.out⟩, ⟨by repeat (first | (with_reducible first | exact HB.out | apply below_alloc | apply pw_below_drewN | apply below_drew1) | exact HB.out)⟩⟩
                        · rw [if_neg c16] at H
                          exact absurd H (by simp)
                      · rw [if_neg c14] at H
                        have c14b0 : decide ((wrap64 (x6_1 + x7_3)) < (a0.size : Int)) = false := decide_eq_false c14
                        clear c14
                        (first | rw [c14b0] | (simp only [i64_w, i32_w]; rw [c14b0]) | skip)
                        have H' := Aside0.mk H
                        clear H
                        go_wp2
                        go_meet
                        case rel => exact ⟨_, (x7_3), (by first | rfl | (simp; done) | (simp [*]; done)), H', ⟨by have := HK1.out; have := HJ4.out; have := HK3.out; first | omega | exact Nat.le_refl _⟩, ⟨by (with_reducible repeat (first | apply Kd.R_alloc | apply Kd.R_drewN | apply Kd.R_drew)); exact HO_5.out⟩, ⟨by repeat (first | (with_reducible first | exact HB.out | apply below_alloc | apply pw_below_drewN | apply below_drew1) | exact HB.out)⟩⟩
                case rest =>
                  clear HC13
                  try clear c1
                  try clear p1
                  try clear q1
                  try clear hx1
                  try clear c2
                  try clear c2b0
                  try clear c2b1
                  try clear p2
                  try clear q2
                  try clear hx2
                  try clear c4
                  try clear c4b0
                  try clear c6
                  try clear c6b0
                  try clear p6
                  try clear p7
                  try clear q7
                  try clear hx7
                  try clear c9
                  try clear p10
                  try clear q10
                  try clear hx10
                  try clear c12
                  try clear c14
                  try clear c14b0
                  try clear c16
                  try clear c16b0
                  try clear p17
                  try clear q17
                  try clear hx17
                  try clear c19
                  try clear c20
                  try clear p20
                  try clear q20
                  try clear hx20
                  try clear c22
                  try clear p1
                  try clear p10
                  try clear p17
                  try clear p2
                  try clear p20
                  try clear p7
                  try clear q1
                  try clear q10
                  try clear q17
                  try clear q20
                  try clear q7
                  obtain ⟨kq, x7_12, rfl, HA, HJ12, HO_5, HB⟩ := hcut
                  cases kq with
                  | zero => exact absurd HA.out (by simp [ferruleref02_Lex.j3])
                  | succ kj12 =>
                    have H := HA.out
                    clear HA
                    simp only [ferruleref02_Lex.j3] at H
                    by_cases c23 : 0 ≤ x6_1
                    · rw [if_pos c23] at H
                      have c23b0 := eq_true c23
                      have c23b1 : decide (0 ≤ x6_1) = true := decide_eq_true c23
                      clear c23
                      by_cases c24 : x6_1 ≤ (wrap64 (x6_1 + x7_12))
                      · rw [if_pos c24] at H
                        have c24b0 := eq_true c24
                        have c24b1 : decide (x6_1 ≤ (wrap64 (x6_1 + x7_12))) = true := decide_eq_true c24
                        by_cases c25 : (wrap64 (x6_1 + x7_12)) ≤ (a0.size : Int)
                        · rw [if_pos c25] at H
                          have c25b0 := eq_true c25
                          have c25b1 : decide ((wrap64 (x6_1 + x7_12)) ≤ (a0.size : Int)) = true := decide_eq_true c25
                          by_cases c26 : x6_1 < (a0.size : Int)
                          · rw [if_pos c26] at H
                            have c26b0 : decide (x6_1 < (a0.size : Int)) = true := decide_eq_true c26
                            clear c26
                            replace H := Option.bind_eq_some_iff.mp H
                            obtain ⟨t151, A280, H⟩ := H
                            replace H : (if t151 = true then ((ferruleref02_Number.f kj12 (a0.extract (x6_1 : Int).toNat ((wrap64 (x6_1 + x7_12)) : Int).toNat)).bind fun bt152 => (if bt152.2.2 = 0 then (if x5_1.length < 4398046511104 then (if 0 ≤ (wrap64 (x6_1 + x7_12)) then ((ferruleref02_blank.f kj12 (a0.extract ((wrap64 (x6_1 + x7_12)) : Int).toNat a0.size)).bind fun t158 => (ferruleref02_Lex.l0 kj12 a0 (x5_1 ++ [(⟨2, a0.extract (x6_1 : Int).toNat ((wrap64 (x6_1 + x7_12)) : Int).toNat, x6_1⟩ : S39)]) (wrap64 ((wrap64 (x6_1 + x7_12)) + t158)))) else (none)) else (none)) else (some (([] : List (S39)), x6_1, bt152.2.2)))) else (if x7_12 > 40 then (some (([] : List (S39)), x6_1, 20)) else ((ferruleref02_Word.f kj12 (a0.extract (x6_1 : Int).toNat ((wrap64 (x6_1 + x7_12)) : Int).toNat)).bind fun t159 => (if t159 = true then (if x5_1.length < 4398046511104 then (if 0 ≤ (wrap64 (x6_1 + x7_12)) then ((ferruleref02_blank.f kj12 (a0.extract ((wrap64 (x6_1 + x7_12)) : Int).toNat a0.size)).bind fun t163 => (ferruleref02_Lex.l0 kj12 a0 (x5_1 ++ [(⟨3, a0.extract (x6_1 : Int).toNat ((wrap64 (x6_1 + x7_12)) : Int).toNat, x6_1⟩ : S39)]) (wrap64 ((wrap64 (x6_1 + x7_12)) + t163)))) else (none)) else (none)) else (if x5_1.length < 4398046511104 then (if 0 ≤ (wrap64 (x6_1 + x7_12)) then ((ferruleref02_blank.f kj12 (a0.extract ((wrap64 (x6_1 + x7_12)) : Int).toNat a0.size)).bind fun t167 => (ferruleref02_Lex.l0 kj12 a0 (x5_1 ++ [(⟨1, a0.extract (x6_1 : Int).toNat ((wrap64 (x6_1 + x7_12)) : Int).toNat, x6_1⟩ : S39)]) (wrap64 ((wrap64 (x6_1 + x7_12)) + t167)))) else (none)) else (none)))))) = some (r1, r2, r3) := H
                            have A28 := Aside0.mk A280
                            clear A280
                            by_cases c29 : t151 = true
                            · subst c29
                              have H1 : ((ferruleref02_Number.f kj12 (a0.extract (x6_1 : Int).toNat ((wrap64 (x6_1 + x7_12)) : Int).toNat)).bind fun bt152 => (if bt152.2.2 = 0 then (if x5_1.length < 4398046511104 then (if 0 ≤ (wrap64 (x6_1 + x7_12)) then ((ferruleref02_blank.f kj12 (a0.extract ((wrap64 (x6_1 + x7_12)) : Int).toNat a0.size)).bind fun t158 => (ferruleref02_Lex.l0 kj12 a0 (x5_1 ++ [(⟨2, a0.extract (x6_1 : Int).toNat ((wrap64 (x6_1 + x7_12)) : Int).toNat, x6_1⟩ : S39)]) (wrap64 ((wrap64 (x6_1 + x7_12)) + t158)))) else (none)) else (none)) else (some (([] : List (S39)), x6_1, bt152.2.2)))) = some (r1, r2, r3) := by rw [if_pos rfl] at H; exact H
                              clear H
                              have H := H1
                              clear H1
                              replace H := Option.bind_eq_some_iff.mp H
                              obtain ⟨⟨t152, t153, t154⟩, A300, H⟩ := H
                              replace H : (if t154 = 0 then (if x5_1.length < 4398046511104 then (if 0 ≤ (wrap64 (x6_1 + x7_12)) then ((ferruleref02_blank.f kj12 (a0.extract ((wrap64 (x6_1 + x7_12)) : Int).toNat a0.size)).bind fun t158 => (ferruleref02_Lex.l0 kj12 a0 (x5_1 ++ [(⟨2, a0.extract (x6_1 : Int).toNat ((wrap64 (x6_1 + x7_12)) : Int).toNat, x6_1⟩ : S39)]) (wrap64 ((wrap64 (x6_1 + x7_12)) + t158)))) else (none)) else (none)) else (some (([] : List (S39)), x6_1, t154))) = some (r1, r2, r3) := H
                              have A30 := Aside0.mk A300
                              clear A300
                              by_cases c31 : t154 = 0
                              · rw [if_pos c31] at H
                                have c31b0 : (t154 == 0) = true := beq_iff_eq.mpr c31
                                have c31b1 : (t154 != 0) = false := bne_eq_false_iff_eq.mpr c31
                                clear c31
                                have c32b0 := eq_true (of_decide_eq_true (by first | (with_reducible assumption) | assumption) : 0 ≤ x6_1)
                                have c33b0 := eq_true (of_decide_eq_true (by first | (with_reducible assumption) | assumption) : x6_1 ≤ (wrap64 (x6_1 + x7_12)))
                                have c34b0 := eq_true (of_decide_eq_true (by first | (with_reducible assumption) | assumption) : (wrap64 (x6_1 + x7_12)) ≤ (a0.size : Int))
                                by_cases c35 : x5_1.length < 4398046511104
                                · rw [if_pos c35] at H
                                  have LMc35 := Aside0.mk c35
                                  clear c35
                                  obtain ⟨y155, hy155⟩ : ∃ y_ : List (S39), y_ = (x5_1 ++ [(⟨2, a0.extract (x6_1 : Int).toNat ((wrap64 (x6_1 + x7_12)) : Int).toNat, x6_1⟩ : S39)]) := ⟨_, rfl⟩
                                  replace H : (if 0 ≤ (wrap64 (x6_1 + x7_12)) then ((ferruleref02_blank.f kj12 (a0.extract ((wrap64 (x6_1 + x7_12)) : Int).toNat a0.size)).bind fun t158 => (ferruleref02_Lex.l0 kj12 a0 y155 (wrap64 ((wrap64 (x6_1 + x7_12)) + t158)))) else (none)) = some (r1, r2, r3) := by first | (rw [hy155]; with_reducible exact H) | (have H2_ := (Option.bind_some _ _).symm.trans H; rw [hy155]; with_reducible exact H2_) | (have H2_ := (Option.bind_some _ _).symm.trans H; with_reducible exact H2_) | with_reducible exact H | (rw [hy155]; exact H) | exact H
                                  have Ny155 := Aside0.mk hy155
                                  clear hy155
                                  obtain ⟨ji36, hji36⟩ : ∃ j_ : Int, (wrap64 (x6_1 + x7_12)) = j_ := ⟨_, rfl⟩
                                  replace H : (if 0 ≤ (ji36) then ((ferruleref02_blank.f kj12 (a0.extract ((ji36) : Int).toNat a0.size)).bind fun t158 => (ferruleref02_Lex.l0 kj12 a0 y155 (wrap64 ((ji36) + t158)))) else (none)) = some (r1, r2, r3) := by first | (rw [hji36] at H; exact H) | (simp only [hji36] at H ⊢; exact H)
                                  (try rw [hji36] at c24b0)
                                  (try rw [hji36] at c24b1)
                                  (try rw [hji36] at c24)
                                  (try rw [hji36] at c25b0)
                                  (try rw [hji36] at c25b1)
                                  (try rw [hji36] at c25)
                                  (try rw [hji36] at A28)
                                  (try rw [hji36] at A30)
                                  (try rw [hji36] at Ny155)
                                  have hji36w : (IntKind.i64.wrap (x6_1 + x7_12)) = ji36 := (i64_w _).trans hji36
                                  by_cases c37 : 0 ≤ (ji36)
                                  · rw [if_pos c37] at H
                                    have c37b0 := eq_true c37
                                    have c37b1 : decide (0 ≤ (ji36)) = true := decide_eq_true c37
                                    clear c37
                                    have c38b0 := eq_true (of_decide_eq_true (by first | (with_reducible assumption) | assumption) : (ji36) ≤ (a0.size : Int))
                                    replace H := Option.bind_eq_some_iff.mp H
                                    obtain ⟨t158, A390, H⟩ := H
                                    replace H : (ferruleref02_Lex.l0 kj12 a0 y155 (wrap64 ((ji36) + t158))) = some (r1, r2, r3) := H
                                    have A39 := Aside0.mk A390
                                    clear A390
                                    have H' := Aside0.mk H
                                    clear H
                                    have p27 : 0 ≤ (x6_1 : Int) := of_decide_eq_true (by first | (with_reducible assumption) | assumption)
                                    have q27 : x6_1 < (a0.size : Int) := of_decide_eq_true (by first | (with_reducible assumption) | assumption)
                                    have hx27 := bt_at a0 x6_1
                                    replace p27 := eq_true p27
                                    replace q27 := eq_true q27
                                    go_wp2_with (first | ((with_reducible refine gate_callee (f := 21) rfl ?_); refine goesL_ (some 65) rfl rfl Tryd.func21 (by kernel_rfl) rfl #[.int .u8 (bt a0 x6_1)] rfl (by (try simp only [List.map_toArray, List.map_cons, List.map_nil]); first | done | rfl | (simp only [List.length_drop, List.length_take]; rfl)) ?_; (with_reducible refine (ferruleref02_digit.calls (bt a0 x6_1) true _ A28.out).mono ?_); rintro e w' ⟨rfl, ⟨nd, rfl⟩⟩; refine ⟨_, rfl, ?_⟩) | ((with_reducible refine gate_callee (f := 12) rfl ?_); refine goesL_ (some 68) rfl rfl Tryd.func12 (by kernel_rfl) rfl #[.string (a0.extract (x6_1 : Int).toNat ((ji36) : Int).toNat)] rfl (by (try simp only [List.map_toArray, List.map_cons, List.map_nil]); first | done | (simp only [hji36]; rfl) | rfl | (simp only [List.length_drop, List.length_take]; rfl)) ?_; (with_reducible refine (ferruleref02_Number.calls kj12 (a0.extract (x6_1 : Int).toNat ((ji36) : Int).toNat) t152 t153 t154 _ A30.out).mono ?_); rintro e w40 ⟨rfl, hb⟩; refine ⟨_, rfl, ?_⟩; have n0_ := Aside0.mk (Kd.R_below (by (with_reducible repeat (first | apply Kd.R_alloc | apply Kd.R_drewN | apply Kd.R_drew)); exact HO_5.out) hb); have n1_ := Aside0.mk (below_step (by repeat (first | (with_reducible first | exact HB.out | apply below_alloc | apply pw_below_drewN | apply below_drew1) | exact HB.out)) hb); clear HO_5; clear HB; have HO_5 := n0_; have HB := n1_; clear n0_ n1_; (try clear hb); (try clear hb2); (try clear hk); (try clear hi)) | ((with_reducible refine gate_builtin (b := .append) (xs := #[.tmp 88, .tmp 98]) rfl ?_); at_builtin; refine Kd.R_append k39 (w0 := w) w.heap.size rfl (.tmp 88) (.tmp 98) 22 39 (.agg #[(.int .i64 0), (.string ⟨#[]⟩), (.int .i64 0)]) 32 rfl Tryd.underlying22 info39 rfl (by decide) (by omega) u5 x5_1 (⟨2, a0.extract (x6_1 : Int).toNat ((ji36) : Int).toNat, x6_1⟩ : S39) [.int .i64 2, .string (a0.extract (x6_1 : Int).toNat ((ji36) : Int).toNat), .int .i64 x6_1] (fun _ => True) (fun _ => False) rfl rfl ?aP (fun _ hk => hk.elim) ?aF ?aO ?aB ?aS ?aL ?_; (case aP => exact k39_mkM _ _ _ (⟨2, a0.extract (x6_1 : Int).toNat ((ji36) : Int).toNat, x6_1⟩ : S39)); (case aB => exact (by repeat (first | (with_reducible first | exact HB.out | apply below_alloc | apply pw_below_drewN | apply below_drew1) | exact HB.out))); (case aF => exact (fun _ _ => trivial)); (case aO => exact (by (with_reducible repeat (first | apply Kd.R_alloc | apply Kd.R_drewN | apply Kd.R_drew)); exact HO_5.out)); (case aS => exact (below_size (by repeat (first | (with_reducible first | exact HB.out | apply below_alloc | apply pw_below_drewN | apply below_drew1) | exact HB.out)))); (case aL => have := LMc35.out; omega); intro v156 w41 ho hb hg hat; rw [← Ny155.out] at ho; have n0_ := Aside0.mk (hb); have n1_ := Aside0.mk (ho); clear HB; clear HO_5; have HB := n0_; have HO157 := n1_; clear n0_ n1_; clear ho hb hg hat) | ((with_reducible refine gate_callee (f := 19) rfl ?_); refine goesL_ (some 107) rfl rfl Tryd.func19 (by kernel_rfl) rfl #[.string (a0.extract ((ji36) : Int).toNat a0.size)] rfl (by (try simp only [List.map_toArray, List.map_cons, List.map_nil]); first | done | (simp only [hji36]; rfl) | rfl | (simp only [List.length_drop, List.length_take]; rfl)) ?_; (with_reducible refine (ferruleref02_blank.calls kj12 (a0.extract ((ji36) : Int).toNat a0.size) t158 _ A39.out).mono ?_); rintro e w' ⟨rfl, ⟨nd, rfl⟩⟩; refine ⟨_, rfl, ?_⟩))
                                    go_roundg kj12
                                    case measure => have := HK1.out; have := HJ4.out; have := HJ12.out; omega
                                    case rel => exact ⟨(y155), (wrap64 ((ji36) + t158)), (by first | rfl | (simp; done) | (simp only [← hji36] <;> (first | rfl | simp)) | (simp [*]; done)), H', ⟨by have := HK1.out; have := HJ4.out; have := HJ12.out; omega⟩, ⟨by (with_reducible repeat (first | apply Kd.R_alloc | apply Kd.R_drewN | apply Kd.R_drew)); exact HO157.out⟩, ⟨by repeat (first | (with_reducible first | exact HB.out | apply below_alloc | apply pw_below_drewN | apply below_drew1) | exact HB.out)⟩⟩
                                  · rw [if_neg c37] at H
                                    exact absurd H (by simp)
                                · rw [if_neg c35] at H
                                  exact absurd H (by simp)
                              · rw [if_neg c31] at H
                                have c31b0 : (t154 == 0) = false := beq_eq_false_iff_ne.mpr c31
                                have c31b1 : (t154 != 0) = true := bne_iff_ne.mpr c31
                                simp only [Option.some.injEq, Prod.mk.injEq] at H
                                obtain ⟨rfl, rfl, rfl⟩ := H
                                have p27 : 0 ≤ (x6_1 : Int) := of_decide_eq_true (by first | (with_reducible assumption) | assumption)
                                have q27 : x6_1 < (a0.size : Int) := of_decide_eq_true (by first | (with_reducible assumption) | assumption)
                                have hx27 := bt_at a0 x6_1
                                replace p27 := eq_true p27
                                replace q27 := eq_true q27
                                go_wp2_with (first | ((with_reducible refine gate_callee (f := 21) rfl ?_); refine goesL_ (some 65) rfl rfl Tryd.func21 (by kernel_rfl) rfl #[.int .u8 (bt a0 x6_1)] rfl (by (try simp only [List.map_toArray, List.map_cons, List.map_nil]); first | done | rfl | (simp only [List.length_drop, List.length_take]; rfl)) ?_; (with_reducible refine (ferruleref02_digit.calls (bt a0 x6_1) true _ A28.out).mono ?_); rintro e w' ⟨rfl, ⟨nd, rfl⟩⟩; refine ⟨_, rfl, ?_⟩) | ((with_reducible refine gate_callee (f := 12) rfl ?_); refine goesL_ (some 68) rfl rfl Tryd.func12 (by kernel_rfl) rfl #[.string (a0.extract (x6_1 : Int).toNat ((wrap64 (x6_1 + x7_12)) : Int).toNat)] rfl (by (try simp only [List.map_toArray, List.map_cons, List.map_nil]); first | done | rfl | (simp only [List.length_drop, List.length_take]; rfl)) ?_; (with_reducible refine (ferruleref02_Number.calls kj12 (a0.extract (x6_1 : Int).toNat ((wrap64 (x6_1 + x7_12)) : Int).toNat) t152 t153 t154 _ A30.out).mono ?_); rintro e w42 ⟨rfl, hb⟩; refine ⟨_, rfl, ?_⟩; have n0_ := Aside0.mk (Kd.R_below (by (with_reducible repeat (first | apply Kd.R_alloc | apply Kd.R_drewN | apply Kd.R_drew)); exact HO_5.out) hb); have n1_ := Aside0.mk (below_step (by repeat (first | (with_reducible first | exact HB.out | apply below_alloc | apply pw_below_drewN | apply below_drew1) | exact HB.out)) hb); clear HO_5; clear HB; have HO_5 := n0_; have HB := n1_; clear n0_ n1_; (try clear hb); (try clear hb2); (try clear hk); (try clear hi)))
                                go_ret3
                                exact ⟨_, by first | rfl | (simp [errW_none, errW_some] <;> rfl) | (simp [*, errW_none, errW_some] <;> rfl), by first | exact Kd.R_nil _ _ _ _ _ | exact Kd.N_nil _ _ _ _ _ | exact Kd.V_nil _ _ _ _ _ | exact Kd.Q_nil _ _ _ _ _ | exact Kd.S_nil _ _ _ _ _, by repeat (first | (with_reducible first | exact HB.out | apply below_alloc | apply pw_below_drewN | apply below_drew1) | exact HB.out)⟩
                            · replace c29 := Bool.eq_false_iff.mpr c29
                              subst c29
                              have H1 : (if x7_12 > 40 then (some (([] : List (S39)), x6_1, 20)) else ((ferruleref02_Word.f kj12 (a0.extract (x6_1 : Int).toNat ((wrap64 (x6_1 + x7_12)) : Int).toNat)).bind fun t159 => (if t159 = true then (if x5_1.length < 4398046511104 then (if 0 ≤ (wrap64 (x6_1 + x7_12)) then ((ferruleref02_blank.f kj12 (a0.extract ((wrap64 (x6_1 + x7_12)) : Int).toNat a0.size)).bind fun t163 => (ferruleref02_Lex.l0 kj12 a0 (x5_1 ++ [(⟨3, a0.extract (x6_1 : Int).toNat ((wrap64 (x6_1 + x7_12)) : Int).toNat, x6_1⟩ : S39)]) (wrap64 ((wrap64 (x6_1 + x7_12)) + t163)))) else (none)) else (none)) else (if x5_1.length < 4398046511104 then (if 0 ≤ (wrap64 (x6_1 + x7_12)) then ((ferruleref02_blank.f kj12 (a0.extract ((wrap64 (x6_1 + x7_12)) : Int).toNat a0.size)).bind fun t167 => (ferruleref02_Lex.l0 kj12 a0 (x5_1 ++ [(⟨1, a0.extract (x6_1 : Int).toNat ((wrap64 (x6_1 + x7_12)) : Int).toNat, x6_1⟩ : S39)]) (wrap64 ((wrap64 (x6_1 + x7_12)) + t167)))) else (none)) else (none))))) = some (r1, r2, r3) := by rw [if_neg (show ¬ (false = true) by decide)] at H; exact H
                              clear H
                              have H := H1
                              clear H1
                              by_cases c43 : x7_12 > 40
                              · rw [if_pos c43] at H
                                have c43b0 : decide (40 < x7_12) = true := decide_eq_true c43
                                clear c43
                                simp only [Option.some.injEq, Prod.mk.injEq] at H
                                obtain ⟨rfl, rfl, rfl⟩ := H
                                have p27 : 0 ≤ (x6_1 : Int) := of_decide_eq_true (by first | (with_reducible assumption) | assumption)
                                have q27 : x6_1 < (a0.size : Int) := of_decide_eq_true (by first | (with_reducible assumption) | assumption)
                                have hx27 := bt_at a0 x6_1
                                replace p27 := eq_true p27
                                replace q27 := eq_true q27
                                go_wp2_with (first | ((with_reducible refine gate_callee (f := 21) rfl ?_); refine goesL_ (some 65) rfl rfl Tryd.func21 (by kernel_rfl) rfl #[.int .u8 (bt a0 x6_1)] rfl (by (try simp only [List.map_toArray, List.map_cons, List.map_nil]); first | done | rfl | (simp only [List.length_drop, List.length_take]; rfl)) ?_; (with_reducible refine (ferruleref02_digit.calls (bt a0 x6_1) false _ A28.out).mono ?_); rintro e w' ⟨rfl, ⟨nd, rfl⟩⟩; refine ⟨_, rfl, ?_⟩))
                                go_ret3
                                exact ⟨_, by first | rfl | (simp [errW_none, errW_some] <;> rfl) | (simp [*, errW_none, errW_some] <;> rfl), by first | exact Kd.R_nil _ _ _ _ _ | exact Kd.N_nil _ _ _ _ _ | exact Kd.V_nil _ _ _ _ _ | exact Kd.Q_nil _ _ _ _ _ | exact Kd.S_nil _ _ _ _ _, by repeat (first | (with_reducible first | exact HB.out | apply below_alloc | apply pw_below_drewN | apply below_drew1) | exact HB.out)⟩
                              · rw [if_neg c43] at H
                                have c43b0 : decide (40 < x7_12) = false := decide_eq_false c43
                                clear c43
                                replace H := Option.bind_eq_some_iff.mp H
                                obtain ⟨t159, A440, H⟩ := H
                                replace H : (if t159 = true then (if x5_1.length < 4398046511104 then (if 0 ≤ (wrap64 (x6_1 + x7_12)) then ((ferruleref02_blank.f kj12 (a0.extract ((wrap64 (x6_1 + x7_12)) : Int).toNat a0.size)).bind fun t163 => (ferruleref02_Lex.l0 kj12 a0 (x5_1 ++ [(⟨3, a0.extract (x6_1 : Int).toNat ((wrap64 (x6_1 + x7_12)) : Int).toNat, x6_1⟩ : S39)]) (wrap64 ((wrap64 (x6_1 + x7_12)) + t163)))) else (none)) else (none)) else (if x5_1.length < 4398046511104 then (if 0 ≤ (wrap64 (x6_1 + x7_12)) then ((ferruleref02_blank.f kj12 (a0.extract ((wrap64 (x6_1 + x7_12)) : Int).toNat a0.size)).bind fun t167 => (ferruleref02_Lex.l0 kj12 a0 (x5_1 ++ [(⟨1, a0.extract (x6_1 : Int).toNat ((wrap64 (x6_1 + x7_12)) : Int).toNat, x6_1⟩ : S39)]) (wrap64 ((wrap64 (x6_1 + x7_12)) + t167)))) else (none)) else (none))) = some (r1, r2, r3) := H
                                have A44 := Aside0.mk A440
                                clear A440
                                by_cases c45 : t159 = true
                                · subst c45
                                  have H1 : (if x5_1.length < 4398046511104 then (if 0 ≤ (wrap64 (x6_1 + x7_12)) then ((ferruleref02_blank.f kj12 (a0.extract ((wrap64 (x6_1 + x7_12)) : Int).toNat a0.size)).bind fun t163 => (ferruleref02_Lex.l0 kj12 a0 (x5_1 ++ [(⟨3, a0.extract (x6_1 : Int).toNat ((wrap64 (x6_1 + x7_12)) : Int).toNat, x6_1⟩ : S39)]) (wrap64 ((wrap64 (x6_1 + x7_12)) + t163)))) else (none)) else (none)) = some (r1, r2, r3) := by rw [if_pos rfl] at H; exact H
                                  clear H
                                  have H := H1
                                  clear H1
                                  have c46b0 := eq_true (of_decide_eq_true (by first | (with_reducible assumption) | assumption) : 0 ≤ x6_1)
                                  have c47b0 := eq_true (of_decide_eq_true (by first | (with_reducible assumption) | assumption) : x6_1 ≤ (wrap64 (x6_1 + x7_12)))
                                  have c48b0 := eq_true (of_decide_eq_true (by first | (with_reducible assumption) | assumption) : (wrap64 (x6_1 + x7_12)) ≤ (a0.size : Int))
                                  by_cases c49 : x5_1.length < 4398046511104
                                  · rw [if_pos c49] at H
                                    have LMc49 := Aside0.mk c49
                                    clear c49
                                    obtain ⟨y160, hy160⟩ : ∃ y_ : List (S39), y_ = (x5_1 ++ [(⟨3, a0.extract (x6_1 : Int).toNat ((wrap64 (x6_1 + x7_12)) : Int).toNat, x6_1⟩ : S39)]) := ⟨_, rfl⟩
                                    replace H : (if 0 ≤ (wrap64 (x6_1 + x7_12)) then ((ferruleref02_blank.f kj12 (a0.extract ((wrap64 (x6_1 + x7_12)) : Int).toNat a0.size)).bind fun t163 => (ferruleref02_Lex.l0 kj12 a0 y160 (wrap64 ((wrap64 (x6_1 + x7_12)) + t163)))) else (none)) = some (r1, r2, r3) := by first | (rw [hy160]; with_reducible exact H) | (have H2_ := (Option.bind_some _ _).symm.trans H; rw [hy160]; with_reducible exact H2_) | (have H2_ := (Option.bind_some _ _).symm.trans H; with_reducible exact H2_) | with_reducible exact H | (rw [hy160]; exact H) | exact H
                                    have Ny160 := Aside0.mk hy160
                                    clear hy160
                                    obtain ⟨ji50, hji50⟩ : ∃ j_ : Int, (wrap64 (x6_1 + x7_12)) = j_ := ⟨_, rfl⟩
                                    replace H : (if 0 ≤ (ji50) then ((ferruleref02_blank.f kj12 (a0.extract ((ji50) : Int).toNat a0.size)).bind fun t163 => (ferruleref02_Lex.l0 kj12 a0 y160 (wrap64 ((ji50) + t163)))) else (none)) = some (r1, r2, r3) := by first | (rw [hji50] at H; exact H) | (simp only [hji50] at H ⊢; exact H)
                                    (try rw [hji50] at c24b0)
                                    (try rw [hji50] at c24b1)
                                    (try rw [hji50] at c24)
                                    (try rw [hji50] at c25b0)
                                    (try rw [hji50] at c25b1)
                                    (try rw [hji50] at c25)
                                    (try rw [hji50] at A28)
                                    (try rw [hji50] at A44)
                                    (try rw [hji50] at Ny160)
                                    have hji50w : (IntKind.i64.wrap (x6_1 + x7_12)) = ji50 := (i64_w _).trans hji50
                                    by_cases c51 : 0 ≤ (ji50)
                                    · rw [if_pos c51] at H
                                      have c51b0 := eq_true c51
                                      have c51b1 : decide (0 ≤ (ji50)) = true := decide_eq_true c51
                                      clear c51
                                      have c52b0 := eq_true (of_decide_eq_true (by first | (with_reducible assumption) | assumption) : (ji50) ≤ (a0.size : Int))
                                      replace H := Option.bind_eq_some_iff.mp H
                                      obtain ⟨t163, A530, H⟩ := H
                                      replace H : (ferruleref02_Lex.l0 kj12 a0 y160 (wrap64 ((ji50) + t163))) = some (r1, r2, r3) := H
                                      have A53 := Aside0.mk A530
                                      clear A530
                                      have H' := Aside0.mk H
                                      clear H
                                      have p27 : 0 ≤ (x6_1 : Int) := of_decide_eq_true (by first | (with_reducible assumption) | assumption)
                                      have q27 : x6_1 < (a0.size : Int) := of_decide_eq_true (by first | (with_reducible assumption) | assumption)
                                      have hx27 := bt_at a0 x6_1
                                      replace p27 := eq_true p27
                                      replace q27 := eq_true q27
                                      go_wp2_with (first | ((with_reducible refine gate_callee (f := 21) rfl ?_); refine goesL_ (some 65) rfl rfl Tryd.func21 (by kernel_rfl) rfl #[.int .u8 (bt a0 x6_1)] rfl (by (try simp only [List.map_toArray, List.map_cons, List.map_nil]); first | done | rfl | (simp only [List.length_drop, List.length_take]; rfl)) ?_; (with_reducible refine (ferruleref02_digit.calls (bt a0 x6_1) false _ A28.out).mono ?_); rintro e w' ⟨rfl, ⟨nd, rfl⟩⟩; refine ⟨_, rfl, ?_⟩) | ((with_reducible refine gate_callee (f := 14) rfl ?_); refine goesL_ (some 80) rfl rfl Tryd.func14 (by kernel_rfl) rfl #[.string (a0.extract (x6_1 : Int).toNat ((ji50) : Int).toNat)] rfl (by (try simp only [List.map_toArray, List.map_cons, List.map_nil]); first | done | (simp only [hji50]; rfl) | rfl | (simp only [List.length_drop, List.length_take]; rfl)) ?_; (with_reducible refine (ferruleref02_Word.calls kj12 (a0.extract (x6_1 : Int).toNat ((ji50) : Int).toNat) true _ A44.out).mono ?_); rintro e w54 ⟨rfl, hb⟩; refine ⟨_, rfl, ?_⟩; have n0_ := Aside0.mk (Kd.R_below (by (with_reducible repeat (first | apply Kd.R_alloc | apply Kd.R_drewN | apply Kd.R_drew)); exact HO_5.out) hb); have n1_ := Aside0.mk (below_step (by repeat (first | (with_reducible first | exact HB.out | apply below_alloc | apply pw_below_drewN | apply below_drew1) | exact HB.out)) hb); clear HO_5; clear HB; have HO_5 := n0_; have HB := n1_; clear n0_ n1_; (try clear hb); (try clear hb2); (try clear hk); (try clear hi)) | ((with_reducible refine gate_builtin (b := .append) (xs := #[.tmp 88, .tmp 98]) rfl ?_); at_builtin; refine Kd.R_append k39 (w0 := w) w.heap.size rfl (.tmp 88) (.tmp 98) 22 39 (.agg #[(.int .i64 0), (.string ⟨#[]⟩), (.int .i64 0)]) 32 rfl Tryd.underlying22 info39 rfl (by decide) (by omega) u5 x5_1 (⟨3, a0.extract (x6_1 : Int).toNat ((ji50) : Int).toNat, x6_1⟩ : S39) [.int .i64 3, .string (a0.extract (x6_1 : Int).toNat ((ji50) : Int).toNat), .int .i64 x6_1] (fun _ => True) (fun _ => False) rfl rfl ?aP (fun _ hk => hk.elim) ?aF ?aO ?aB ?aS ?aL ?_; (case aP => exact k39_mkM _ _ _ (⟨3, a0.extract (x6_1 : Int).toNat ((ji50) : Int).toNat, x6_1⟩ : S39)); (case aB => exact (by repeat (first | (with_reducible first | exact HB.out | apply below_alloc | apply pw_below_drewN | apply below_drew1) | exact HB.out))); (case aF => exact (fun _ _ => trivial)); (case aO => exact (by (with_reducible repeat (first | apply Kd.R_alloc | apply Kd.R_drewN | apply Kd.R_drew)); exact HO_5.out)); (case aS => exact (below_size (by repeat (first | (with_reducible first | exact HB.out | apply below_alloc | apply pw_below_drewN | apply below_drew1) | exact HB.out)))); (case aL => have := LMc49.out; omega); intro v161 w55 ho hb hg hat; rw [← Ny160.out] at ho; have n0_ := Aside0.mk (hb); have n1_ := Aside0.mk (ho); clear HB; clear HO_5; have HB := n0_; have HO162 := n1_; clear n0_ n1_; clear ho hb hg hat) | ((with_reducible refine gate_callee (f := 19) rfl ?_); refine goesL_ (some 107) rfl rfl Tryd.func19 (by kernel_rfl) rfl #[.string (a0.extract ((ji50) : Int).toNat a0.size)] rfl (by (try simp only [List.map_toArray, List.map_cons, List.map_nil]); first | done | (simp only [hji50]; rfl) | rfl | (simp only [List.length_drop, List.length_take]; rfl)) ?_; (with_reducible refine (ferruleref02_blank.calls kj12 (a0.extract ((ji50) : Int).toNat a0.size) t163 _ A53.out).mono ?_); rintro e w' ⟨rfl, ⟨nd, rfl⟩⟩; refine ⟨_, rfl, ?_⟩))
                                      go_roundg kj12
                                      case measure => have := HK1.out; have := HJ4.out; have := HJ12.out; omega
                                      case rel => exact ⟨(y160), (wrap64 ((ji50) + t163)), (by first | rfl | (simp; done) | (simp only [← hji50] <;> (first | rfl | simp)) | (simp [*]; done)), H', ⟨by have := HK1.out; have := HJ4.out; have := HJ12.out; omega⟩, ⟨by (with_reducible repeat (first | apply Kd.R_alloc | apply Kd.R_drewN | apply Kd.R_drew)); exact HO162.out⟩, ⟨by repeat (first | (with_reducible first | exact HB.out | apply below_alloc | apply pw_below_drewN | apply below_drew1) | exact HB.out)⟩⟩
                                    · rw [if_neg c51] at H
                                      exact absurd H (by simp)
                                  · rw [if_neg c49] at H
                                    exact absurd H (by simp)
                                · replace c45 := Bool.eq_false_iff.mpr c45
                                  subst c45
                                  have H1 : (if x5_1.length < 4398046511104 then (if 0 ≤ (wrap64 (x6_1 + x7_12)) then ((ferruleref02_blank.f kj12 (a0.extract ((wrap64 (x6_1 + x7_12)) : Int).toNat a0.size)).bind fun t167 => (ferruleref02_Lex.l0 kj12 a0 (x5_1 ++ [(⟨1, a0.extract (x6_1 : Int).toNat ((wrap64 (x6_1 + x7_12)) : Int).toNat, x6_1⟩ : S39)]) (wrap64 ((wrap64 (x6_1 + x7_12)) + t167)))) else (none)) else (none)) = some (r1, r2, r3) := by rw [if_neg (show ¬ (false = true) by decide)] at H; exact H
                                  clear H
                                  have H := H1
                                  clear H1
                                  have c56b0 := eq_true (of_decide_eq_true (by first | (with_reducible assumption) | assumption) : 0 ≤ x6_1)
                                  have c57b0 := eq_true (of_decide_eq_true (by first | (with_reducible assumption) | assumption) : x6_1 ≤ (wrap64 (x6_1 + x7_12)))
                                  have c58b0 := eq_true (of_decide_eq_true (by first | (with_reducible assumption) | assumption) : (wrap64 (x6_1 + x7_12)) ≤ (a0.size : Int))
                                  by_cases c59 : x5_1.length < 4398046511104
                                  · rw [if_pos c59] at H
                                    have LMc59 := Aside0.mk c59
                                    clear c59
                                    obtain ⟨y164, hy164⟩ : ∃ y_ : List (S39), y_ = (x5_1 ++ [(⟨1, a0.extract (x6_1 : Int).toNat ((wrap64 (x6_1 + x7_12)) : Int).toNat, x6_1⟩ : S39)]) := ⟨_, rfl⟩
                                    replace H : (if 0 ≤ (wrap64 (x6_1 + x7_12)) then ((ferruleref02_blank.f kj12 (a0.extract ((wrap64 (x6_1 + x7_12)) : Int).toNat a0.size)).bind fun t167 => (ferruleref02_Lex.l0 kj12 a0 y164 (wrap64 ((wrap64 (x6_1 + x7_12)) + t167)))) else (none)) = some (r1, r2, r3) := by first | (rw [hy164]; with_reducible exact H) | (have H2_ := (Option.bind_some _ _).symm.trans H; rw [hy164]; with_reducible exact H2_) | (have H2_ := (Option.bind_some _ _).symm.trans H; with_reducible exact H2_) | with_reducible exact H | (rw [hy164]; exact H) | exact H
                                    have Ny164 := Aside0.mk hy164
                                    clear hy164
                                    obtain ⟨ji60, hji60⟩ : ∃ j_ : Int, (wrap64 (x6_1 + x7_12)) = j_ := ⟨_, rfl⟩
                                    replace H : (if 0 ≤ (ji60) then ((ferruleref02_blank.f kj12 (a0.extract ((ji60) : Int).toNat a0.size)).bind fun t167 => (ferruleref02_Lex.l0 kj12 a0 y164 (wrap64 ((ji60) + t167)))) else (none)) = some (r1, r2, r3) := by first | (rw [hji60] at H; exact H) | (simp only [hji60] at H ⊢; exact H)
                                    (try rw [hji60] at c24b0)
                                    (try rw [hji60] at c24b1)
                                    (try rw [hji60] at c24)
                                    (try rw [hji60] at c25b0)
                                    (try rw [hji60] at c25b1)
                                    (try rw [hji60] at c25)
                                    (try rw [hji60] at A28)
                                    (try rw [hji60] at A44)
                                    (try rw [hji60] at Ny164)
                                    have hji60w : (IntKind.i64.wrap (x6_1 + x7_12)) = ji60 := (i64_w _).trans hji60
                                    by_cases c61 : 0 ≤ (ji60)
                                    · rw [if_pos c61] at H
                                      have c61b0 := eq_true c61
                                      have c61b1 : decide (0 ≤ (ji60)) = true := decide_eq_true c61
                                      clear c61
                                      have c62b0 := eq_true (of_decide_eq_true (by first | (with_reducible assumption) | assumption) : (ji60) ≤ (a0.size : Int))
                                      replace H := Option.bind_eq_some_iff.mp H
                                      obtain ⟨t167, A630, H⟩ := H
                                      replace H : (ferruleref02_Lex.l0 kj12 a0 y164 (wrap64 ((ji60) + t167))) = some (r1, r2, r3) := H
                                      have A63 := Aside0.mk A630
                                      clear A630
                                      have H' := Aside0.mk H
                                      clear H
                                      have p27 : 0 ≤ (x6_1 : Int) := of_decide_eq_true (by first | (with_reducible assumption) | assumption)
                                      have q27 : x6_1 < (a0.size : Int) := of_decide_eq_true (by first | (with_reducible assumption) | assumption)
                                      have hx27 := bt_at a0 x6_1
                                      replace p27 := eq_true p27
                                      replace q27 := eq_true q27
                                      go_wp2_with (first | ((with_reducible refine gate_callee (f := 21) rfl ?_); refine goesL_ (some 65) rfl rfl Tryd.func21 (by kernel_rfl) rfl #[.int .u8 (bt a0 x6_1)] rfl (by (try simp only [List.map_toArray, List.map_cons, List.map_nil]); first | done | rfl | (simp only [List.length_drop, List.length_take]; rfl)) ?_; (with_reducible refine (ferruleref02_digit.calls (bt a0 x6_1) false _ A28.out).mono ?_); rintro e w' ⟨rfl, ⟨nd, rfl⟩⟩; refine ⟨_, rfl, ?_⟩) | ((with_reducible refine gate_callee (f := 14) rfl ?_); refine goesL_ (some 80) rfl rfl Tryd.func14 (by kernel_rfl) rfl #[.string (a0.extract (x6_1 : Int).toNat ((ji60) : Int).toNat)] rfl (by (try simp only [List.map_toArray, List.map_cons, List.map_nil]); first | done | (simp only [hji60]; rfl) | rfl | (simp only [List.length_drop, List.length_take]; rfl)) ?_; (with_reducible refine (ferruleref02_Word.calls kj12 (a0.extract (x6_1 : Int).toNat ((ji60) : Int).toNat) false _ A44.out).mono ?_); rintro e w64 ⟨rfl, hb⟩; refine ⟨_, rfl, ?_⟩; have n0_ := Aside0.mk (Kd.R_below (by (with_reducible repeat (first | apply Kd.R_alloc | apply Kd.R_drewN | apply Kd.R_drew)); exact HO_5.out) hb); have n1_ := Aside0.mk (below_step (by repeat (first | (with_reducible first | exact HB.out | apply below_alloc | apply pw_below_drewN | apply below_drew1) | exact HB.out)) hb); clear HO_5; clear HB; have HO_5 := n0_; have HB := n1_; clear n0_ n1_; (try clear hb); (try clear hb2); (try clear hk); (try clear hi)) | ((with_reducible refine gate_builtin (b := .append) (xs := #[.tmp 88, .tmp 98]) rfl ?_); at_builtin; refine Kd.R_append k39 (w0 := w) w.heap.size rfl (.tmp 88) (.tmp 98) 22 39 (.agg #[(.int .i64 0), (.string ⟨#[]⟩), (.int .i64 0)]) 32 rfl Tryd.underlying22 info39 rfl (by decide) (by omega) u5 x5_1 (⟨1, a0.extract (x6_1 : Int).toNat ((ji60) : Int).toNat, x6_1⟩ : S39) [.int .i64 1, .string (a0.extract (x6_1 : Int).toNat ((ji60) : Int).toNat), .int .i64 x6_1] (fun _ => True) (fun _ => False) rfl rfl ?aP (fun _ hk => hk.elim) ?aF ?aO ?aB ?aS ?aL ?_; (case aP => exact k39_mkM _ _ _ (⟨1, a0.extract (x6_1 : Int).toNat ((ji60) : Int).toNat, x6_1⟩ : S39)); (case aB => exact (by repeat (first | (with_reducible first | exact HB.out | apply below_alloc | apply pw_below_drewN | apply below_drew1) | exact HB.out))); (case aF => exact (fun _ _ => trivial)); (case aO => exact (by (with_reducible repeat (first | apply Kd.R_alloc | apply Kd.R_drewN | apply Kd.R_drew)); exact HO_5.out)); (case aS => exact (below_size (by repeat (first | (with_reducible first | exact HB.out | apply below_alloc | apply pw_below_drewN | apply below_drew1) | exact HB.out)))); (case aL => have := LMc59.out; omega); intro v165 w65 ho hb hg hat; rw [← Ny164.out] at ho; have n0_ := Aside0.mk (hb); have n1_ := Aside0.mk (ho); clear HB; clear HO_5; have HB := n0_; have HO166 := n1_; clear n0_ n1_; clear ho hb hg hat) | ((with_reducible refine gate_callee (f := 19) rfl ?_); refine goesL_ (some 107) rfl rfl Tryd.func19 (by kernel_rfl) rfl #[.string (a0.extract ((ji60) : Int).toNat a0.size)] rfl (by (try simp only [List.map_toArray, List.map_cons, List.map_nil]); first | done | (simp only [hji60]; rfl) | rfl | (simp only [List.length_drop, List.length_take]; rfl)) ?_; (with_reducible refine (ferruleref02_blank.calls kj12 (a0.extract ((ji60) : Int).toNat a0.size) t167 _ A63.out).mono ?_); rintro e w' ⟨rfl, ⟨nd, rfl⟩⟩; refine ⟨_, rfl, ?_⟩))
                                      go_roundg kj12
                                      case measure => have := HK1.out; have := HJ4.out; have := HJ12.out; omega
                                      case rel => exact ⟨(y164), (wrap64 ((ji60) + t167)), (by first | rfl | (simp; done) | (simp only [← hji60] <;> (first | rfl | simp)) | (simp [*]; done)), H', ⟨by have := HK1.out; have := HJ4.out; have := HJ12.out; omega⟩, ⟨by (with_reducible repeat (first | apply Kd.R_alloc | apply Kd.R_drewN | apply Kd.R_drew)); exact HO166.out⟩, ⟨by repeat (first | (with_reducible first | exact HB.out | apply below_alloc | apply pw_below_drewN | apply below_drew1) | exact HB.out)⟩⟩
                                    · rw [if_neg c61] at H
                                      exact absurd H (by simp)
                                  · rw [if_neg c59] at H
                                    exact absurd H (by simp)
                          · rw [if_neg c26] at H
                            exact absurd H (by simp)
                        · rw [if_neg c25] at H
                          exact absurd H (by simp)
                      · rw [if_neg c24] at H
                        exact absurd H (by simp)
                    · rw [if_neg c23] at H
                      exact absurd H (by simp)
              · replace c12 := Bool.eq_false_iff.mpr c12
                subst c12
                have H1 : (if 0 ≤ x6_1 then (if x6_1 ≤ (a0.size : Int) then ((ferruleref02_sign.f kj4 (a0.extract (x6_1 : Int).toNat a0.size)).bind fun t168 => (if t168 = 0 then (some (([] : List (S39)), x6_1, 20)) else (if x6_1 ≤ (wrap64 (x6_1 + t168)) then (if (wrap64 (x6_1 + t168)) ≤ (a0.size : Int) then (if x5_1.length < 4398046511104 then (if 0 ≤ (wrap64 (x6_1 + t168)) then ((ferruleref02_blank.f kj4 (a0.extract ((wrap64 (x6_1 + t168)) : Int).toNat a0.size)).bind fun t172 => (ferruleref02_Lex.l0 kj4 a0 (x5_1 ++ [(⟨4, a0.extract (x6_1 : Int).toNat ((wrap64 (x6_1 + t168)) : Int).toNat, x6_1⟩ : S39)]) (wrap64 ((wrap64 (x6_1 + t168)) + t172)))) else (none)) else (none)) else (none)) else (none)))) else (none)) else (none)) = some (r1, r2, r3) := by rw [if_neg (show ¬ (false = true) by decide)] at H; exact H
                clear H
                have H := H1
                clear H1
                by_cases c66 : 0 ≤ x6_1
                · rw [if_pos c66] at H
                  have c66b0 := eq_true c66
                  have c66b1 : decide (0 ≤ x6_1) = true := decide_eq_true c66
                  clear c66
                  by_cases c67 : x6_1 ≤ (a0.size : Int)
                  · rw [if_pos c67] at H
                    have c67b0 := eq_true c67
                    have c67b1 : decide (x6_1 ≤ (a0.size : Int)) = true := decide_eq_true c67
                    clear c67
                    replace H := Option.bind_eq_some_iff.mp H
                    obtain ⟨t168, A680, H⟩ := H
                    replace H : (if t168 = 0 then (some (([] : List (S39)), x6_1, 20)) else (if x6_1 ≤ (wrap64 (x6_1 + t168)) then (if (wrap64 (x6_1 + t168)) ≤ (a0.size : Int) then (if x5_1.length < 4398046511104 then (if 0 ≤ (wrap64 (x6_1 + t168)) then ((ferruleref02_blank.f kj4 (a0.extract ((wrap64 (x6_1 + t168)) : Int).toNat a0.size)).bind fun t172 => (ferruleref02_Lex.l0 kj4 a0 (x5_1 ++ [(⟨4, a0.extract (x6_1 : Int).toNat ((wrap64 (x6_1 + t168)) : Int).toNat, x6_1⟩ : S39)]) (wrap64 ((wrap64 (x6_1 + t168)) + t172)))) else (none)) else (none)) else (none)) else (none))) = some (r1, r2, r3) := H
                    have A68 := Aside0.mk A680
                    clear A680
                    by_cases c69 : t168 = 0
                    · rw [if_pos c69] at H
                      have c69b0 : (t168 == 0) = true := beq_iff_eq.mpr c69
                      have c69b1 : (t168 != 0) = false := bne_eq_false_iff_eq.mpr c69
                      clear c69
                      simp only [Option.some.injEq, Prod.mk.injEq] at H
                      obtain ⟨rfl, rfl, rfl⟩ := H
                      go_wp2_with (first | ((with_reducible refine gate_callee (f := 22) rfl ?_); refine goesL_ (some 84) rfl rfl Tryd.func22 (by kernel_rfl) rfl #[.string (a0.extract (x6_1 : Int).toNat a0.size)] rfl (by (try simp only [List.map_toArray, List.map_cons, List.map_nil]); first | done | rfl | (simp only [List.length_drop, List.length_take]; rfl)) ?_; (with_reducible refine (ferruleref02_sign.calls kj4 (a0.extract (x6_1 : Int).toNat a0.size) t168 _ A68.out).mono ?_); rintro e w70 ⟨rfl, hb⟩; refine ⟨_, rfl, ?_⟩; have n0_ := Aside0.mk (Kd.R_below (by (with_reducible repeat (first | apply Kd.R_alloc | apply Kd.R_drewN | apply Kd.R_drew)); exact HO_5.out) hb); have n1_ := Aside0.mk (below_step (by repeat (first | (with_reducible first | exact HB.out | apply below_alloc | apply pw_below_drewN | apply below_drew1) | exact HB.out)) hb); clear HO_5; clear HB; have HO_5 := n0_; have HB := n1_; clear n0_ n1_; (try clear hb); (try clear hb2); (try clear hk); (try clear hi)))
                      go_ret3
                      exact ⟨_, by first | rfl | (simp [errW_none, errW_some] <;> rfl) | (simp [*, errW_none, errW_some] <;> rfl), by first | exact Kd.R_nil _ _ _ _ _ | exact Kd.N_nil _ _ _ _ _ | exact Kd.V_nil _ _ _ _ _ | exact Kd.Q_nil _ _ _ _ _ | exact Kd.S_nil _ _ _ _ _, by repeat (first | (with_reducible first | exact HB.out | apply below_alloc | apply pw_below_drewN | apply below_drew1) | exact HB.out)⟩
                    · rw [if_neg c69] at H
                      have c69b0 : (t168 == 0) = false := beq_eq_false_iff_ne.mpr c69
                      have c69b1 : (t168 != 0) = true := bne_iff_ne.mpr c69
                      have c71b0 := eq_true (of_decide_eq_true (by first | (with_reducible assumption) | assumption) : 0 ≤ x6_1)
                      by_cases c72 : x6_1 ≤ (wrap64 (x6_1 + t168))
                      · rw [if_pos c72] at H
                        have c72b0 := eq_true c72
                        have c72b1 : decide (x6_1 ≤ (wrap64 (x6_1 + t168))) = true := decide_eq_true c72
                        by_cases c73 : (wrap64 (x6_1 + t168)) ≤ (a0.size : Int)
                        · rw [if_pos c73] at H
                          have c73b0 := eq_true c73
                          have c73b1 : decide ((wrap64 (x6_1 + t168)) ≤ (a0.size : Int)) = true := decide_eq_true c73
                          by_cases c74 : x5_1.length < 4398046511104
                          · rw [if_pos c74] at H
                            have LMc74 := Aside0.mk c74
                            clear c74
                            obtain ⟨y169, hy169⟩ : ∃ y_ : List (S39), y_ = (x5_1 ++ [(⟨4, a0.extract (x6_1 : Int).toNat ((wrap64 (x6_1 + t168)) : Int).toNat, x6_1⟩ : S39)]) := ⟨_, rfl⟩
                            replace H : (if 0 ≤ (wrap64 (x6_1 + t168)) then ((ferruleref02_blank.f kj4 (a0.extract ((wrap64 (x6_1 + t168)) : Int).toNat a0.size)).bind fun t172 => (ferruleref02_Lex.l0 kj4 a0 y169 (wrap64 ((wrap64 (x6_1 + t168)) + t172)))) else (none)) = some (r1, r2, r3) := by first | (rw [hy169]; with_reducible exact H) | (have H2_ := (Option.bind_some _ _).symm.trans H; rw [hy169]; with_reducible exact H2_) | (have H2_ := (Option.bind_some _ _).symm.trans H; with_reducible exact H2_) | with_reducible exact H | (rw [hy169]; exact H) | exact H
                            have Ny169 := Aside0.mk hy169
                            clear hy169
                            obtain ⟨ji75, hji75⟩ : ∃ j_ : Int, (wrap64 (x6_1 + t168)) = j_ := ⟨_, rfl⟩
                            replace H : (if 0 ≤ (ji75) then ((ferruleref02_blank.f kj4 (a0.extract ((ji75) : Int).toNat a0.size)).bind fun t172 => (ferruleref02_Lex.l0 kj4 a0 y169 (wrap64 ((ji75) + t172)))) else (none)) = some (r1, r2, r3) := by first | (rw [hji75] at H; exact H) | (simp only [hji75] at H ⊢; exact H)
                            (try rw [hji75] at c72b0)
                            (try rw [hji75] at c72b1)
                            (try rw [hji75] at c72)
                            (try rw [hji75] at c73b0)
                            (try rw [hji75] at c73b1)
                            (try rw [hji75] at c73)
                            (try rw [hji75] at A68)
                            (try rw [hji75] at Ny169)
                            have hji75w : (IntKind.i64.wrap (x6_1 + t168)) = ji75 := (i64_w _).trans hji75
                            by_cases c76 : 0 ≤ (ji75)
                            · rw [if_pos c76] at H
                              have c76b0 := eq_true c76
                              have c76b1 : decide (0 ≤ (ji75)) = true := decide_eq_true c76
                              clear c76
                              have c77b0 := eq_true (of_decide_eq_true (by first | (with_reducible assumption) | assumption) : (ji75) ≤ (a0.size : Int))
                              replace H := Option.bind_eq_some_iff.mp H
                              obtain ⟨t172, A780, H⟩ := H
                              replace H : (ferruleref02_Lex.l0 kj4 a0 y169 (wrap64 ((ji75) + t172))) = some (r1, r2, r3) := H
                              have A78 := Aside0.mk A780
                              clear A780
                              have H' := Aside0.mk H
                              clear H
                              go_wp2_with (first | ((with_reducible refine gate_callee (f := 22) rfl ?_); refine goesL_ (some 84) rfl rfl Tryd.func22 (by kernel_rfl) rfl #[.string (a0.extract (x6_1 : Int).toNat a0.size)] rfl (by (try simp only [List.map_toArray, List.map_cons, List.map_nil]); first | done | rfl | (simp only [List.length_drop, List.length_take]; rfl)) ?_; (with_reducible refine (ferruleref02_sign.calls kj4 (a0.extract (x6_1 : Int).toNat a0.size) t168 _ A68.out).mono ?_); rintro e w79 ⟨rfl, hb⟩; refine ⟨_, rfl, ?_⟩; have n0_ := Aside0.mk (Kd.R_below (by (with_reducible repeat (first | apply Kd.R_alloc | apply Kd.R_drewN | apply Kd.R_drew)); exact HO_5.out) hb); have n1_ := Aside0.mk (below_step (by repeat (first | (with_reducible first | exact HB.out | apply below_alloc | apply pw_below_drewN | apply below_drew1) | exact HB.out)) hb); clear HO_5; clear HB; have HO_5 := n0_; have HB := n1_; clear n0_ n1_; (try clear hb); (try clear hb2); (try clear hk); (try clear hi)) | ((with_reducible refine gate_builtin (b := .append) (xs := #[.tmp 88, .tmp 98]) rfl ?_); at_builtin; refine Kd.R_append k39 (w0 := w) w.heap.size rfl (.tmp 88) (.tmp 98) 22 39 (.agg #[(.int .i64 0), (.string ⟨#[]⟩), (.int .i64 0)]) 32 rfl Tryd.underlying22 info39 rfl (by decide) (by omega) u5 x5_1 (⟨4, a0.extract (x6_1 : Int).toNat ((ji75) : Int).toNat, x6_1⟩ : S39) [.int .i64 4, .string (a0.extract (x6_1 : Int).toNat ((ji75) : Int).toNat), .int .i64 x6_1] (fun _ => True) (fun _ => False) rfl rfl ?aP (fun _ hk => hk.elim) ?aF ?aO ?aB ?aS ?aL ?_; (case aP => exact k39_mkM _ _ _ (⟨4, a0.extract (x6_1 : Int).toNat ((ji75) : Int).toNat, x6_1⟩ : S39)); (case aB => exact (by repeat (first | (with_reducible first | exact HB.out | apply below_alloc | apply pw_below_drewN | apply below_drew1) | exact HB.out))); (case aF => exact (fun _ _ => trivial)); (case aO => exact (by (with_reducible repeat (first | apply Kd.R_alloc | apply Kd.R_drewN | apply Kd.R_drew)); exact HO_5.out)); (case aS => exact (below_size (by repeat (first | (with_reducible first | exact HB.out | apply below_alloc | apply pw_below_drewN | apply below_drew1) | exact HB.out)))); (case aL => have := LMc74.out; omega); intro v170 w80 ho hb hg hat; rw [← Ny169.out] at ho; have n0_ := Aside0.mk (hb); have n1_ := Aside0.mk (ho); clear HB; clear HO_5; have HB := n0_; have HO171 := n1_; clear n0_ n1_; clear ho hb hg hat) | ((with_reducible refine gate_callee (f := 19) rfl ?_); refine goesL_ (some 107) rfl rfl Tryd.func19 (by kernel_rfl) rfl #[.string (a0.extract ((ji75) : Int).toNat a0.size)] rfl (by (try simp only [List.map_toArray, List.map_cons, List.map_nil]); first | done | (simp only [hji75]; rfl) | rfl | (simp only [List.length_drop, List.length_take]; rfl)) ?_; (with_reducible refine (ferruleref02_blank.calls kj4 (a0.extract ((ji75) : Int).toNat a0.size) t172 _ A78.out).mono ?_); rintro e w' ⟨rfl, ⟨nd, rfl⟩⟩; refine ⟨_, rfl, ?_⟩))
                              go_roundg kj4
                              case measure => have := HK1.out; have := HJ4.out; omega
                              case rel => exact ⟨(y169), (wrap64 ((ji75) + t172)), (by first | rfl | (simp; done) | (simp only [← hji75] <;> (first | rfl | simp)) | (simp [*]; done)), H', ⟨by have := HK1.out; have := HJ4.out; omega⟩, ⟨by (with_reducible repeat (first | apply Kd.R_alloc | apply Kd.R_drewN | apply Kd.R_drew)); exact HO171.out⟩, ⟨by repeat (first | (with_reducible first | exact HB.out | apply below_alloc | apply pw_below_drewN | apply below_drew1) | exact HB.out)⟩⟩
                            · rw [if_neg c76] at H
                              exact absurd H (by simp)
                          · rw [if_neg c74] at H
                            exact absurd H (by simp)
                        · rw [if_neg c73] at H
                          exact absurd H (by simp)
                      · rw [if_neg c72] at H
                        exact absurd H (by simp)
                  · rw [if_neg c67] at H
                    exact absurd H (by simp)
                · rw [if_neg c66] at H
                  exact absurd H (by simp)
        · rw [if_neg c4] at H
          have c4b0 : decide (x6_1 < (a0.size : Int)) = false := decide_eq_false c4
          clear c4
          simp only [Option.some.injEq, Prod.mk.injEq] at H
          obtain ⟨rfl, rfl, rfl⟩ := H
          go_wp2
          go_ret3
          exact ⟨_, by first | rfl | (simp [errW_none, errW_some] <;> rfl) | (simp [*, errW_none, errW_some] <;> rfl), by (with_reducible repeat (first | apply Kd.R_alloc | apply Kd.R_drewN | apply Kd.R_drew)); exact HO_5.out, by repeat (first | (with_reducible first | exact HB.out | apply below_alloc | apply pw_below_drewN | apply below_drew1) | exact HB.out)⟩

end Go.Proofs.YtafjbebbmfihaaaDoor.P
