-- Laid by a program of this session over the kit's print. Not trusted: Lean checks it.
import Derived.Test.YtafjbebbmfihaaaDoorPx0
import Derived.Test.YtafjbebbmfihaaaDoorHLex
namespace Go.Proofs.YtafjbebbmfihaaaDoor.P
open Go.RowKit Go.Proofs.YtafjbebbmfihaaaDoorW.PrintWords Go.Proofs.YtafjbebbmfihaaaDoorW.PrintLast Go.Proofs.YtafjbebbmfihaaaDoorW.PrintMore
attribute [local go_sem] max2_int min2_int max_two min_two max_three min_three max_four min_four   -- for this text's walks alone
set_option linter.unusedVariables false
set_option linter.unusedSimpArgs false

/-! ### ferrulelaw02_LexParts: function 5 -/
mutual
def ferrulelaw02_LexParts.j0 : Nat → ByteArray → Option (Bool)
  | 0, _ => none
  | k + 1, x0 => (lex_Lex.f k (⟨#[97, 32, 60, 61, 32, 49, 50, 117, 56, 32, 47, 47, 32, 120]⟩ : ByteArray)).bind fun bt217 => (if bt217.2.2 = 0 then (if (bt217.1.length : Int) = 3 then (if 1 < (bt217.1.length : Int) then (ferrulelaw02_LexParts.j1 k x0 (((rd_T39 bt217.1 1).f1).toList != ([60, 61] : List UInt8))) else (none)) else (ferrulelaw02_LexParts.j1 k x0 true)) else (ferrulelaw02_LexParts.j1 k x0 true))
def ferrulelaw02_LexParts.j1 : Nat → ByteArray → Bool → Option (Bool)
  | 0, _, _ => none
  | k + 1, x0, x41 => if x41 = true then (some false) else ((lex_Lex.f k x0).bind fun bt223 => (if bt223.2.2 = 0 then (ferrulelaw02_LexParts.l0 k x0 bt223.1 0 0) else (if (bt223.1.length : Int) = 0 then (if bt223.2.1 ≥ 0 then (some (decide (bt223.2.1 < (x0.size : Int)))) else (some false)) else (some false))))
def ferrulelaw02_LexParts.l0 : Nat → ByteArray → List (S39) → Int → Int → Option (Bool)
  | 0, _, _, _, _ => none
  | k + 1, x0, x6, x8, x9 => if x9 < (x6.length : Int) then (if 0 ≤ x9 then (if ((rd_T39 x6 x9).f2) < x8 then (ferrulelaw02_LexParts.j3 k x0 x6 x8 x9 true ((rd_T39 x6 x9).f0) ((rd_T39 x6 x9).f1) ((rd_T39 x6 x9).f2)) else (if (wrap64 (((rd_T39 x6 x9).f2) + (((rd_T39 x6 x9).f1).size : Int))) > (x0.size : Int) then (ferrulelaw02_LexParts.j3 k x0 x6 x8 x9 true ((rd_T39 x6 x9).f0) ((rd_T39 x6 x9).f1) ((rd_T39 x6 x9).f2)) else (if (((rd_T39 x6 x9).f1).size : Int) = 0 then (ferrulelaw02_LexParts.j3 k x0 x6 x8 x9 true ((rd_T39 x6 x9).f0) ((rd_T39 x6 x9).f1) ((rd_T39 x6 x9).f2)) else (if 0 ≤ ((rd_T39 x6 x9).f2) then (if ((rd_T39 x6 x9).f2) ≤ (wrap64 (((rd_T39 x6 x9).f2) + (((rd_T39 x6 x9).f1).size : Int))) then (if (wrap64 (((rd_T39 x6 x9).f2) + (((rd_T39 x6 x9).f1).size : Int))) ≤ (x0.size : Int) then (ferrulelaw02_LexParts.j3 k x0 x6 x8 x9 ((x0.extract (((rd_T39 x6 x9).f2) : Int).toNat ((wrap64 (((rd_T39 x6 x9).f2) + (((rd_T39 x6 x9).f1).size : Int))) : Int).toNat).toList != ((rd_T39 x6 x9).f1).toList) ((rd_T39 x6 x9).f0) ((rd_T39 x6 x9).f1) ((rd_T39 x6 x9).f2)) else (none)) else (none)) else (none))))) else (none)) else (if 0 ≤ x8 then (if x8 ≤ (x0.size : Int) then ((lex_Lex.f k (x0.extract (x8 : Int).toNat x0.size)).bind fun bt228 => (if bt228.2.2 = 0 then (some ((bt228.1.length : Int) == 0)) else (some false))) else (none)) else (none))
def ferrulelaw02_LexParts.j3 : Nat → ByteArray → List (S39) → Int → Int → Bool → Int → ByteArray → Int → Option (Bool)
  | 0, _, _, _, _, _, _, _, _ => none
  | k + 1, x0, x6, x8, x9, x108, x235000, x235001, x235002 => if x108 = true then (some false) else ((lex_Lex.f k x235001).bind fun bt235 => (if bt235.2.2 = 0 then (if (bt235.1.length : Int) = 1 then (if 0 < (bt235.1.length : Int) then (if ((rd_T39 bt235.1 0).f0) = x235000 then (ferrulelaw02_LexParts.j4 k x0 x6 x8 x9 (((rd_T39 bt235.1 0).f1).toList != x235001.toList) x235000 x235001 x235002) else (ferrulelaw02_LexParts.j4 k x0 x6 x8 x9 true x235000 x235001 x235002)) else (none)) else (ferrulelaw02_LexParts.j4 k x0 x6 x8 x9 true x235000 x235001 x235002)) else (ferrulelaw02_LexParts.j4 k x0 x6 x8 x9 true x235000 x235001 x235002)))
def ferrulelaw02_LexParts.j4 : Nat → ByteArray → List (S39) → Int → Int → Bool → Int → ByteArray → Int → Option (Bool)
  | 0, _, _, _, _, _, _, _, _ => none
  | k + 1, x0, x6, x8, x9, x140, x235000, x235001, x235002 => if x140 = true then (some false) else (if 0 ≤ x8 then (if x8 ≤ x235002 then (if x235002 ≤ (x0.size : Int) then ((lex_Lex.f k (x0.extract (x8 : Int).toNat (x235002 : Int).toNat)).bind fun bt242 => (if bt242.2.2 = 0 then (if (bt242.1.length : Int) = 0 then (ferrulelaw02_LexParts.l0 k x0 x6 (wrap64 (x235002 + (x235001.size : Int))) (wrap64 (x9 + 1))) else (some false)) else (some false))) else (none)) else (none)) else (none))
end
def ferrulelaw02_LexParts.f (k : Nat) (a0 : ByteArray) : Option (Bool) := if (a0.size : Int) > 3000 then (if 0 ≤ 3000 then (if 3000 ≤ (a0.size : Int) then (ferrulelaw02_LexParts.j0 k (a0.extract 0 3000)) else (none)) else (none)) else (ferrulelaw02_LexParts.j0 k a0)
theorem ferrulelaw02_LexParts.mono_l : ∀ k, (∀ y0, LeO (ferrulelaw02_LexParts.j0 k y0) (ferrulelaw02_LexParts.j0 (k + 1) y0)) ∧ (∀ y0 y1, LeO (ferrulelaw02_LexParts.j1 k y0 y1) (ferrulelaw02_LexParts.j1 (k + 1) y0 y1)) ∧ (∀ y0 y1 y2 y3, LeO (ferrulelaw02_LexParts.l0 k y0 y1 y2 y3) (ferrulelaw02_LexParts.l0 (k + 1) y0 y1 y2 y3)) ∧ (∀ y0 y1 y2 y3 y4 y5 y6 y7, LeO (ferrulelaw02_LexParts.j3 k y0 y1 y2 y3 y4 y5 y6 y7) (ferrulelaw02_LexParts.j3 (k + 1) y0 y1 y2 y3 y4 y5 y6 y7)) ∧ (∀ y0 y1 y2 y3 y4 y5 y6 y7, LeO (ferrulelaw02_LexParts.j4 k y0 y1 y2 y3 y4 y5 y6 y7) (ferrulelaw02_LexParts.j4 (k + 1) y0 y1 y2 y3 y4 y5 y6 y7))
  | 0 => ⟨fun _ r h => by simp [ferrulelaw02_LexParts.j0] at h, fun _ _ r h => by simp [ferrulelaw02_LexParts.j1] at h, fun _ _ _ _ r h => by simp [ferrulelaw02_LexParts.l0] at h, fun _ _ _ _ _ _ _ _ r h => by simp [ferrulelaw02_LexParts.j3] at h, fun _ _ _ _ _ _ _ _ r h => by simp [ferrulelaw02_LexParts.j4] at h⟩
  | k + 1 => by
    obtain ⟨ih0, ih1, ih2, ih3, ih4⟩ := ferrulelaw02_LexParts.mono_l k
    refine ⟨?_, ?_, ?_, ?_, ?_⟩
    · intro y0
      unfold ferrulelaw02_LexParts.j0
      repeat' first
      | (with_reducible exact ih0 _)
      | (with_reducible exact ih1 _ _)
      | (with_reducible exact ih2 _ _ _ _)
      | (with_reducible exact ih3 _ _ _ _ _ _ _ _)
      | (with_reducible exact ih4 _ _ _ _ _ _ _ _)
      | (with_reducible exact lex_Lex.mono _ _)
      | (with_reducible exact LeO.refl _)
      | (with_reducible exact LeO.none _)
      | (with_reducible refine LeO.ite ?_ ?_)
      | (with_reducible refine LeO.bind ?_ (fun _ => ?_))
      | exact ih0 _
      | exact ih1 _ _
      | exact ih2 _ _ _ _
      | exact ih3 _ _ _ _ _ _ _ _
      | exact ih4 _ _ _ _ _ _ _ _
      | exact lex_Lex.mono _ _
      | exact LeO.none _
      | refine LeO.ite ?_ ?_
      | refine LeO.bind ?_ (fun _ => ?_)
    · intro y0 y1
      unfold ferrulelaw02_LexParts.j1
      repeat' first
      | (with_reducible exact ih0 _)
      | (with_reducible exact ih1 _ _)
      | (with_reducible exact ih2 _ _ _ _)
      | (with_reducible exact ih3 _ _ _ _ _ _ _ _)
      | (with_reducible exact ih4 _ _ _ _ _ _ _ _)
      | (with_reducible exact lex_Lex.mono _ _)
      | (with_reducible exact LeO.refl _)
      | (with_reducible exact LeO.none _)
      | (with_reducible refine LeO.ite ?_ ?_)
      | (with_reducible refine LeO.bind ?_ (fun _ => ?_))
      | exact ih0 _
      | exact ih1 _ _
      | exact ih2 _ _ _ _
      | exact ih3 _ _ _ _ _ _ _ _
      | exact ih4 _ _ _ _ _ _ _ _
      | exact lex_Lex.mono _ _
      | exact LeO.none _
      | refine LeO.ite ?_ ?_
      | refine LeO.bind ?_ (fun _ => ?_)
    · intro y0 y1 y2 y3
      unfold ferrulelaw02_LexParts.l0
      repeat' first
      | (with_reducible exact ih0 _)
      | (with_reducible exact ih1 _ _)
      | (with_reducible exact ih2 _ _ _ _)
      | (with_reducible exact ih3 _ _ _ _ _ _ _ _)
      | (with_reducible exact ih4 _ _ _ _ _ _ _ _)
      | (with_reducible exact lex_Lex.mono _ _)
      | (with_reducible exact LeO.refl _)
      | (with_reducible exact LeO.none _)
      | (with_reducible refine LeO.ite ?_ ?_)
      | (with_reducible refine LeO.bind ?_ (fun _ => ?_))
      | exact ih0 _
      | exact ih1 _ _
      | exact ih2 _ _ _ _
      | exact ih3 _ _ _ _ _ _ _ _
      | exact ih4 _ _ _ _ _ _ _ _
      | exact lex_Lex.mono _ _
      | exact LeO.none _
      | refine LeO.ite ?_ ?_
      | refine LeO.bind ?_ (fun _ => ?_)
    · intro y0 y1 y2 y3 y4 y5 y6 y7
      unfold ferrulelaw02_LexParts.j3
      repeat' first
      | (with_reducible exact ih0 _)
      | (with_reducible exact ih1 _ _)
      | (with_reducible exact ih2 _ _ _ _)
      | (with_reducible exact ih3 _ _ _ _ _ _ _ _)
      | (with_reducible exact ih4 _ _ _ _ _ _ _ _)
      | (with_reducible exact lex_Lex.mono _ _)
      | (with_reducible exact LeO.refl _)
      | (with_reducible exact LeO.none _)
      | (with_reducible refine LeO.ite ?_ ?_)
      | (with_reducible refine LeO.bind ?_ (fun _ => ?_))
      | exact ih0 _
      | exact ih1 _ _
      | exact ih2 _ _ _ _
      | exact ih3 _ _ _ _ _ _ _ _
      | exact ih4 _ _ _ _ _ _ _ _
      | exact lex_Lex.mono _ _
      | exact LeO.none _
      | refine LeO.ite ?_ ?_
      | refine LeO.bind ?_ (fun _ => ?_)
    · intro y0 y1 y2 y3 y4 y5 y6 y7
      unfold ferrulelaw02_LexParts.j4
      repeat' first
      | (with_reducible exact ih0 _)
      | (with_reducible exact ih1 _ _)
      | (with_reducible exact ih2 _ _ _ _)
      | (with_reducible exact ih3 _ _ _ _ _ _ _ _)
      | (with_reducible exact ih4 _ _ _ _ _ _ _ _)
      | (with_reducible exact lex_Lex.mono _ _)
      | (with_reducible exact LeO.refl _)
      | (with_reducible exact LeO.none _)
      | (with_reducible refine LeO.ite ?_ ?_)
      | (with_reducible refine LeO.bind ?_ (fun _ => ?_))
      | exact ih0 _
      | exact ih1 _ _
      | exact ih2 _ _ _ _
      | exact ih3 _ _ _ _ _ _ _ _
      | exact ih4 _ _ _ _ _ _ _ _
      | exact lex_Lex.mono _ _
      | exact LeO.none _
      | refine LeO.ite ?_ ?_
      | refine LeO.bind ?_ (fun _ => ?_)
theorem ferrulelaw02_LexParts.mono : ∀ a0 k, LeO (ferrulelaw02_LexParts.f k a0) (ferrulelaw02_LexParts.f (k + 1) a0) := by
  intro a0 k
  obtain ⟨ih0, ih1, ih2, ih3, ih4⟩ := ferrulelaw02_LexParts.mono_l k
  unfold ferrulelaw02_LexParts.f
  repeat' first
      | (with_reducible exact ih0 _)
      | (with_reducible exact ih1 _ _)
      | (with_reducible exact ih2 _ _ _ _)
      | (with_reducible exact ih3 _ _ _ _ _ _ _ _)
      | (with_reducible exact ih4 _ _ _ _ _ _ _ _)
      | (with_reducible exact lex_Lex.mono _ _)
      | (with_reducible exact LeO.refl _)
      | (with_reducible exact LeO.none _)
      | (with_reducible refine LeO.ite ?_ ?_)
      | (with_reducible refine LeO.bind ?_ (fun _ => ?_))
      | exact ih0 _
      | exact ih1 _ _
      | exact ih2 _ _ _ _
      | exact ih3 _ _ _ _ _ _ _ _
      | exact ih4 _ _ _ _ _ _ _ _
      | exact lex_Lex.mono _ _
      | exact LeO.none _
      | refine LeO.ite ?_ ?_
      | refine LeO.bind ?_ (fun _ => ?_)
set_option maxHeartbeats 8000000 in
set_option maxRecDepth 100000 in
theorem ferrulelaw02_LexParts.calls (k : Nat) (a0 : ByteArray) (r : Bool) (w : World) (hG : Gl w) (h : ferrulelaw02_LexParts.f k a0 = some r) :
    Calls Tryd.prog 5 #[.string a0] w fun e w' => e = .returned (.bool r) ∧ Below w.heap.size w w' := by
  have HG := Aside0.mk hG
  clear hG
  have hu39 := Tryd.underlying39
  have HB := Aside0.mk (Below.refl w.heap.size w)
  have H : (if (a0.size : Int) > 3000 then (if 0 ≤ 3000 then (if 3000 ≤ (a0.size : Int) then (ferrulelaw02_LexParts.j0 k (a0.extract 0 3000)) else (none)) else (none)) else (ferrulelaw02_LexParts.j0 k a0)) = some r := h
  clear h
  have HC2 := Aside0.mk H
  clear H
  go_enter Tryd.func5, Tryd.ntmps5
  go_upto_if 20 with (fail)
  repeat (go_quiet (fail); go_upto_if 20 with (fail))
  go_cut [0] (fun v0 wc => ∃ (kq : Nat) (x0_1 : ByteArray), v0 = .string x0_1 ∧ Aside0 (ferrulelaw02_LexParts.j0 kq x0_1 = some r) ∧ Aside0 (kq ≤ k) ∧ Aside0 (Below w.heap.size w wc))
  case first =>
    have H := HC2.out
    clear HC2
    by_cases c3 : (a0.size : Int) > 3000
    · rw [if_pos c3] at H
      have c3b0 : decide (3000 < (a0.size : Int)) = true := decide_eq_true c3
      have c3b1 : decide (3000 < a0.size) = true := decide_eq_true (by omega)
      clear c3
      (first | rw [c3b0] | (simp only [i64_w, i32_w]; rw [c3b0]) | skip)
      by_cases c4 : 0 ≤ 3000
      · rw [if_pos c4] at H
        have c4b0 := eq_true c4
        have c4b1 : decide (0 ≤ 3000) = true := decide_eq_true c4
        clear c4
        by_cases c5 : 3000 ≤ (a0.size : Int)
        · rw [if_pos c5] at H
          have c5b0 := eq_true c5
          have c5b1 : decide (3000 ≤ (a0.size : Int)) = true := decide_eq_true c5
          clear c5
          have H' := Aside0.mk H
          clear H
          go_wp2
          repeat (go_quiet (fail); try go_wp2)
          go_meet
          case rel => exact ⟨_, (a0.extract 0 3000), (by first | rfl | (simp; done) | (simp [*]; done)), H', ⟨by first | omega | exact Nat.le_refl _⟩, ⟨by repeat (first | (with_reducible first | exact HB.out | apply below_alloc | apply pw_below_drewN | apply below_drew1) | exact HB.out)⟩⟩
        · rw [if_neg c5] at H
          exact absurd H (by simp)
      · rw [if_neg c4] at H
        exact absurd H (by simp)
    · rw [if_neg c3] at H
      have c3b0 : decide (3000 < (a0.size : Int)) = false := decide_eq_false c3
      have c3b1 : decide (3000 < a0.size) = false := decide_eq_false (by omega)
      clear c3
      (first | rw [c3b0] | (simp only [i64_w, i32_w]; rw [c3b0]) | skip)
      have H' := Aside0.mk H
      clear H
      go_wp2
      repeat (go_quiet (fail); try go_wp2)
      go_meet
      case rel => exact ⟨_, (a0), (by first | rfl | (simp; done) | (simp [*]; done)), H', ⟨by first | omega | exact Nat.le_refl _⟩, ⟨by repeat (first | (with_reducible first | exact HB.out | apply below_alloc | apply pw_below_drewN | apply below_drew1) | exact HB.out)⟩⟩
  case rest =>
    clear HC2
    try clear p2
    try clear c3
    try clear c3b0
    try clear c3b1
    try clear c4
    try clear c4b0
    try clear c4b1
    try clear c5
    try clear c5b0
    try clear c5b1
    obtain ⟨kq, x0_1, rfl, HA, HJ1, HB⟩ := hcut
    cases kq with
    | zero => exact absurd HA.out (by simp [ferrulelaw02_LexParts.j0])
    | succ kj1 =>
      have H := HA.out
      clear HA
      simp only [ferrulelaw02_LexParts.j0] at H
      replace H := Option.bind_eq_some_iff.mp H
      obtain ⟨⟨t217, t220, t221⟩, A60, H⟩ := H
      replace H : (if t221 = 0 then (if (t217.length : Int) = 3 then (if 1 < (t217.length : Int) then (ferrulelaw02_LexParts.j1 kj1 x0_1 (((rd_T39 t217 1).f1).toList != ([60, 61] : List UInt8))) else (none)) else (ferrulelaw02_LexParts.j1 kj1 x0_1 true)) else (ferrulelaw02_LexParts.j1 kj1 x0_1 true)) = some r := H
      have A6 := Aside0.mk A60
      clear A60
      have HC7 := Aside0.mk H
      clear H
      go_upto_region 4 with (first | (go_at_call 8; (with_reducible refine (lex_Lex.calls kj1 (⟨#[97, 32, 60, 61, 32, 49, 50, 117, 56, 32, 47, 47, 32, 120]⟩ : ByteArray) t217 t220 t221 _ (Gl.below HG.out (by repeat (first | (with_reducible first | exact HB.out | apply below_alloc | apply pw_below_drewN | apply below_drew1) | exact HB.out))) A6.out).mono ?_); rintro e w8 ⟨v218, rfl, ho0, hb⟩; have n0_ := Aside0.mk (Kd.V_lower (Kd.V_mono (ok' := fun k_ => True) ho0 (fun k_ hk_ => trivial)) (below_size (by repeat (first | (with_reducible first | exact HB.out | apply below_alloc | apply pw_below_drewN | apply below_drew1) | exact HB.out)))); have n1_ := Aside0.mk (below_step (by repeat (first | (with_reducible first | exact HB.out | apply below_alloc | apply pw_below_drewN | apply below_drew1) | exact HB.out)) hb); clear HB; have HO219 := n0_; have HB := n1_; clear n0_ n1_; (try clear hb); (try clear hb2); (try clear hk); (try clear hi); (try clear ho0)))
      repeat (go_quiet (first | (go_at_call 8; (with_reducible refine (lex_Lex.calls kj1 (⟨#[97, 32, 60, 61, 32, 49, 50, 117, 56, 32, 47, 47, 32, 120]⟩ : ByteArray) t217 t220 t221 _ (Gl.below HG.out (by repeat (first | (with_reducible first | exact HB.out | apply below_alloc | apply pw_below_drewN | apply below_drew1) | exact HB.out))) A6.out).mono ?_); rintro e w8 ⟨v218, rfl, ho0, hb⟩; have n0_ := Aside0.mk (Kd.V_lower (Kd.V_mono (ok' := fun k_ => True) ho0 (fun k_ hk_ => trivial)) (below_size (by repeat (first | (with_reducible first | exact HB.out | apply below_alloc | apply pw_below_drewN | apply below_drew1) | exact HB.out)))); have n1_ := Aside0.mk (below_step (by repeat (first | (with_reducible first | exact HB.out | apply below_alloc | apply pw_below_drewN | apply below_drew1) | exact HB.out)) hb); clear HB; have HO219 := n0_; have HB := n1_; clear n0_ n1_; (try clear hb); (try clear hb2); (try clear hk); (try clear hi); (try clear ho0))); go_upto_region 4 with (first | (go_at_call 8; (with_reducible refine (lex_Lex.calls kj1 (⟨#[97, 32, 60, 61, 32, 49, 50, 117, 56, 32, 47, 47, 32, 120]⟩ : ByteArray) t217 t220 t221 _ (Gl.below HG.out (by repeat (first | (with_reducible first | exact HB.out | apply below_alloc | apply pw_below_drewN | apply below_drew1) | exact HB.out))) A6.out).mono ?_); rintro e w8 ⟨v218, rfl, ho0, hb⟩; have n0_ := Aside0.mk (Kd.V_lower (Kd.V_mono (ok' := fun k_ => True) ho0 (fun k_ hk_ => trivial)) (below_size (by repeat (first | (with_reducible first | exact HB.out | apply below_alloc | apply pw_below_drewN | apply below_drew1) | exact HB.out)))); have n1_ := Aside0.mk (below_step (by repeat (first | (with_reducible first | exact HB.out | apply below_alloc | apply pw_below_drewN | apply below_drew1) | exact HB.out)) hb); clear HB; have HO219 := n0_; have HB := n1_; clear n0_ n1_; (try clear hb); (try clear hb2); (try clear hk); (try clear hi); (try clear ho0))))
      (try simp only [Act.put, List.setIfInBounds_toArray, List.set_cons_zero, List.set_cons_succ])
      go_cut [41] (fun v41 wc => ∃ (kq : Nat) (x41_6 : Bool), v41 = .bool x41_6 ∧ Aside0 (ferrulelaw02_LexParts.j1 kq x0_1 x41_6 = some r) ∧ Aside0 (kq ≤ kj1) ∧ Aside0 (Below w.heap.size w wc))
      case first =>
        have H := HC7.out
        clear HC7
        by_cases c9 : t221 = 0
        · rw [if_pos c9] at H
          have c9b0 : (t221 == 0) = true := beq_iff_eq.mpr c9
          have c9b1 : (t221 != 0) = false := bne_eq_false_iff_eq.mpr c9
          clear c9
          (first | rw [c9b0] | (simp only [i64_w, i32_w]; rw [c9b0]) | skip)
          by_cases c10 : (t217.length : Int) = 3
          · rw [if_pos c10] at H
            have c10b0 : ((t217.length : Int) == 3) = true := beq_iff_eq.mpr c10
            have c10b1 : ((t217.length : Int) != 3) = false := bne_eq_false_iff_eq.mpr c10
            clear c10
            by_cases c11 : 1 < (t217.length : Int)
            · rw [if_pos c11] at H
              have c11b0 : decide (1 < (t217.length : Int)) = true := decide_eq_true c11
              have c11b1 : decide (1 < t217.length) = true := decide_eq_true (by omega)
              clear c11
              have H' := Aside0.mk H
              clear H
              obtain ⟨Ao12, co12, eo12⟩ := Kd.V_slice HO219.out
              subst eo12
              have p222 : 0 ≤ (1 : Int) := (by omega)
              have q222 : 1 < (t217.length : Int) := of_decide_eq_true (by first | (with_reducible assumption) | assumption)
              obtain ⟨ad222, e222, hx222_0, hx222_1, hx222_2⟩ := at_T39 (Kd.V_reads' HO219.out).2.2 1 p222 q222
              cases e222
              (try simp only [show (1 : Int).toNat = 1 from rfl, Nat.reduceMul, Nat.reduceEqDiff, Go.Addr.add, ↓reduceIte] at hx222_0)
              (try simp only [show (1 : Int).toNat = 1 from rfl, Nat.reduceMul, Nat.reduceEqDiff, Go.Addr.add, ↓reduceIte] at hx222_1)
              (try simp only [show (1 : Int).toNat = 1 from rfl, Nat.reduceMul, Nat.reduceEqDiff, Go.Addr.add, ↓reduceIte] at hx222_2)
              have qi222 : (1 < t217.length) = True := eq_true (by omega)
              (try rw [show ((1 : Int)).toNat = 1 from rfl] at hx222_0)
              (try rw [show 1 * 3 = 3 from rfl] at hx222_0)
              (try rw [show ((1 : Int)).toNat = 1 from rfl] at hx222_1)
              (try rw [show 1 * 3 = 3 from rfl] at hx222_1)
              (try rw [show ((1 : Int)).toNat = 1 from rfl] at hx222_2)
              (try rw [show 1 * 3 = 3 from rfl] at hx222_2)
              replace p222 := eq_true p222
              replace q222 := eq_true q222
              go_wp2
              repeat (go_quiet (fail); try go_wp2)
              go_meet
              case rel => exact ⟨_, ((((rd_T39 t217 1).f1).toList != ([60, 61] : List UInt8))), (by first | rfl | (simp; done) | (simp [*]; done)), H', ⟨by have := HJ1.out; first | omega | exact Nat.le_refl _⟩, ⟨by repeat (first | (with_reducible first | exact HB.out | apply below_alloc | apply pw_below_drewN | apply below_drew1) | exact HB.out)⟩⟩
            · rw [if_neg c11] at H
              exact absurd H (by simp)
          · rw [if_neg c10] at H
            have c10b0 : ((t217.length : Int) == 3) = false := beq_eq_false_iff_ne.mpr c10
            have c10b1 : ((t217.length : Int) != 3) = true := bne_iff_ne.mpr c10
            have H' := Aside0.mk H
            clear H
            obtain ⟨Ao13, co13, eo13⟩ := Kd.V_slice HO219.out
            subst eo13
            go_wp2
            repeat (go_quiet (fail); try go_wp2)
            go_meet
            case rel => exact ⟨_, (true), (by first | rfl | (simp; done) | (simp [*]; done)), H', ⟨by have := HJ1.out; first | omega | exact Nat.le_refl _⟩, ⟨by repeat (first | (with_reducible first | exact HB.out | apply below_alloc | apply pw_below_drewN | apply below_drew1) | exact HB.out)⟩⟩
        · rw [if_neg c9] at H
          have c9b0 : (t221 == 0) = false := beq_eq_false_iff_ne.mpr c9
          have c9b1 : (t221 != 0) = true := bne_iff_ne.mpr c9
          (first | rw [c9b0] | (simp only [i64_w, i32_w]; rw [c9b0]) | skip)
          have H' := Aside0.mk H
          clear H
          go_wp2
          repeat (go_quiet (fail); try go_wp2)
          go_meet
          case rel => exact ⟨_, (true), (by first | rfl | (simp; done) | (simp [*]; done)), H', ⟨by have := HJ1.out; first | omega | exact Nat.le_refl _⟩, ⟨by repeat (first | (with_reducible first | exact HB.out | apply below_alloc | apply pw_below_drewN | apply below_drew1) | exact HB.out)⟩⟩
      case rest =>
        clear HC7
        try clear c1
        try clear p2
        try clear q2
        try clear hx2
        try clear qi2
        try clear c3
        try clear c3b0
        try clear c3b1
        try clear c4
        try clear c4b0
        try clear c4b1
        try clear c5
        try clear c5b0
        try clear c5b1
        try clear c9
        try clear c9b0
        try clear c9b1
        try clear c10
        try clear c10b0
        try clear c10b1
        try clear c11
        try clear c11b0
        try clear c11b1
        try clear hx222_0
        try clear hx222_1
        try clear hx222_2
        try clear p2
        try clear p222
        try clear q222
        obtain ⟨kq, x41_6, rfl, HA, HJ6, HB⟩ := hcut
        cases kq with
        | zero => exact absurd HA.out (by simp [ferrulelaw02_LexParts.j1])
        | succ kj6 =>
          have H := HA.out
          clear HA
          simp only [ferrulelaw02_LexParts.j1] at H
          by_cases c14 : x41_6 = true
          · subst c14
            have H1 : (some false) = some r := by rw [if_pos rfl] at H; exact H
            clear H
            have H := H1
            clear H1
            obtain rfl := Option.some.inj H
            go_wp2
            repeat (go_quiet (fail); try go_wp2)
            go_ret
            exact ⟨by first | rfl | (simp [errW_none, errW_some] <;> rfl) | (simp [*, errW_none, errW_some] <;> rfl), by repeat (first | (with_reducible first | exact HB.out | apply below_alloc | apply pw_below_drewN | apply below_drew1) | exact HB.out)⟩
          · replace c14 := Bool.eq_false_iff.mpr c14
            subst c14
            have H1 : ((lex_Lex.f kj6 x0_1).bind fun bt223 => (if bt223.2.2 = 0 then (ferrulelaw02_LexParts.l0 kj6 x0_1 bt223.1 0 0) else (if (bt223.1.length : Int) = 0 then (if bt223.2.1 ≥ 0 then (some (decide (bt223.2.1 < (x0_1.size : Int)))) else (some false)) else (some false)))) = some r := by rw [if_neg (show ¬ (false = true) by decide)] at H; exact H
            clear H
            have H := H1
            clear H1
            replace H := Option.bind_eq_some_iff.mp H
            obtain ⟨⟨t223, t226, t227⟩, A150, H⟩ := H
            replace H : (if t227 = 0 then (ferrulelaw02_LexParts.l0 kj6 x0_1 t223 0 0) else (if (t223.length : Int) = 0 then (if t226 ≥ 0 then (some (decide (t226 < (x0_1.size : Int)))) else (some false)) else (some false))) = some r := H
            have A15 := Aside0.mk A150
            clear A150
            by_cases c16 : t227 = 0
            · rw [if_pos c16] at H
              have c16b0 : (t227 == 0) = true := beq_iff_eq.mpr c16
              have c16b1 : (t227 != 0) = false := bne_eq_false_iff_eq.mpr c16
              clear c16
              have H' := Aside0.mk H
              clear H
              go_wp2_with (first | (go_at_call 8; (with_reducible refine (lex_Lex.calls kj6 x0_1 t223 t226 t227 _ (Gl.below HG.out (by repeat (first | (with_reducible first | exact HB.out | apply below_alloc | apply pw_below_drewN | apply below_drew1) | exact HB.out))) A15.out).mono ?_); rintro e w17 ⟨v224, rfl, ho0, hb⟩; have n0_ := Aside0.mk (Kd.V_lower (Kd.V_mono (ok' := fun k_ => True) ho0 (fun k_ hk_ => trivial)) (below_size (by repeat (first | (with_reducible first | exact HB.out | apply below_alloc | apply pw_below_drewN | apply below_drew1) | exact HB.out)))); have n1_ := Aside0.mk (below_step (by repeat (first | (with_reducible first | exact HB.out | apply below_alloc | apply pw_below_drewN | apply below_drew1) | exact HB.out)) hb); clear HB; have HO225 := n0_; have HB := n1_; clear n0_ n1_; (try clear hb); (try clear hb2); (try clear hk); (try clear hi); (try clear ho0)))
              repeat (go_quiet (first | (go_at_call 8; (with_reducible refine (lex_Lex.calls kj6 x0_1 t223 t226 t227 _ (Gl.below HG.out (by repeat (first | (with_reducible first | exact HB.out | apply below_alloc | apply pw_below_drewN | apply below_drew1) | exact HB.out))) A15.out).mono ?_); rintro e w17 ⟨v224, rfl, ho0, hb⟩; have n0_ := Aside0.mk (Kd.V_lower (Kd.V_mono (ok' := fun k_ => True) ho0 (fun k_ hk_ => trivial)) (below_size (by repeat (first | (with_reducible first | exact HB.out | apply below_alloc | apply pw_below_drewN | apply below_drew1) | exact HB.out)))); have n1_ := Aside0.mk (below_step (by repeat (first | (with_reducible first | exact HB.out | apply below_alloc | apply pw_below_drewN | apply below_drew1) | exact HB.out)) hb); clear HB; have HO225 := n0_; have HB := n1_; clear n0_ n1_; (try clear hb); (try clear hb2); (try clear hk); (try clear hi); (try clear ho0))); try go_wp2_with (first | (go_at_call 8; (with_reducible refine (lex_Lex.calls kj6 x0_1 t223 t226 t227 _ (Gl.below HG.out (by repeat (first | (with_reducible first | exact HB.out | apply below_alloc | apply pw_below_drewN | apply below_drew1) | exact HB.out))) A15.out).mono ?_); rintro e w17 ⟨v224, rfl, ho0, hb⟩; have n0_ := Aside0.mk (Kd.V_lower (Kd.V_mono (ok' := fun k_ => True) ho0 (fun k_ hk_ => trivial)) (below_size (by repeat (first | (with_reducible first | exact HB.out | apply below_alloc | apply pw_below_drewN | apply below_drew1) | exact HB.out)))); have n1_ := Aside0.mk (below_step (by repeat (first | (with_reducible first | exact HB.out | apply below_alloc | apply pw_below_drewN | apply below_drew1) | exact HB.out)) hb); clear HB; have HO225 := n0_; have HB := n1_; clear n0_ n1_; (try clear hb); (try clear hb2); (try clear hk); (try clear hi); (try clear ho0))))
              go_loopg [8, 9] kj6 (fun kq v8 v9 w' => ∃ (x8_3 : Int) (x9_3 : Int), v8 = .int .i64 x8_3 ∧ v9 = .int .i64 x9_3 ∧ Aside0 (ferrulelaw02_LexParts.l0 kq x0_1 t223 x8_3 x9_3 = some r) ∧ Aside0 (kq ≤ kj6) ∧ Aside0 (Kd.V k39 39 w' w.heap.size (fun _ => True) v224 t223) ∧ Aside0 (Below w.heap.size w w'))
              case atStart => exact ⟨(0), (0), (by first | rfl | (simp; done) | (simp [*]; done)), (by first | rfl | (simp; done) | (simp [*]; done)), H', ⟨Nat.le_refl _⟩, ⟨by (with_reducible repeat (first | apply Kd.V_alloc | apply Kd.V_drewN | apply Kd.V_drew)); exact HO225.out⟩, ⟨by repeat (first | (with_reducible first | exact HB.out | apply below_alloc | apply pw_below_drewN | apply below_drew1) | exact HB.out)⟩⟩
              case round =>
                clear H'
                try clear c1
                try clear p2
                try clear q2
                try clear hx2
                try clear qi2
                try clear c3
                try clear c3b0
                try clear c3b1
                try clear c4
                try clear c4b0
                try clear c4b1
                try clear c5
                try clear c5b0
                try clear c5b1
                try clear c9
                try clear c9b0
                try clear c9b1
                try clear c10
                try clear c10b0
                try clear c10b1
                try clear c11
                try clear c11b0
                try clear c11b1
                try clear c14
                try clear c16
                try clear c16b0
                try clear c16b1
                try clear hx222_0
                try clear hx222_1
                try clear hx222_2
                try clear p2
                try clear p222
                try clear q2
                try clear q222
                obtain ⟨x8_3, x9_3, rfl, rfl, HA, HK3, HO_6, HB⟩ := hrel
                cases gk with
                | zero => exact absurd HA.out (by simp [ferrulelaw02_LexParts.l0])
                | succ k3 =>
                  have H := HA.out
                  clear HA
                  simp only [ferrulelaw02_LexParts.l0] at H
                  by_cases c18 : x9_3 < (t223.length : Int)
                  · rw [if_pos c18] at H
                    have c18b0 : decide (x9_3 < (t223.length : Int)) = true := decide_eq_true c18
                    clear c18
                    by_cases c19 : 0 ≤ x9_3
                    · rw [if_pos c19] at H
                      have c19b0 : decide (0 ≤ x9_3) = true := decide_eq_true c19
                      clear c19
                      have HC20 := Aside0.mk H
                      clear H
                      obtain ⟨Ao21, co21, eo21⟩ := Kd.V_slice HO_6.out
                      subst eo21
                      have p233 : 0 ≤ (x9_3 : Int) := of_decide_eq_true (by first | (with_reducible assumption) | assumption)
                      have q233 : x9_3 < (t223.length : Int) := of_decide_eq_true (by first | (with_reducible assumption) | assumption)
                      obtain ⟨ad233, e233, hx233_0, hx233_1, hx233_2⟩ := at_T39 (Kd.V_reads' HO_6.out).2.2 x9_3 p233 q233
                      cases e233
                      replace p233 := eq_true p233
                      replace q233 := eq_true q233
                      go_upto_region 14 with (first | ((with_reducible refine gate_dst (N := 10) rfl ?_); (try (refine gate_guard (by rfl) ?_; dsimp only)); refine box_event ?hg (N := 10) ?hd (cs := #[.int .i64 0, .string (⟨#[]⟩ : ByteArray), .int .i64 0]) (t := 39) ?hr ?_; (case hd => rfl); (case hg => rfl); (case hr => first | (go_simp; done) | (go_simp; rfl)); intro gb234 hg w22 hbox hb; have n0_ := Aside0.mk (Kd.V_below (Kd.V_elderB (by (with_reducible repeat (first | apply Kd.V_alloc | apply Kd.V_drewN | apply Kd.V_drew)); exact HO_6.out) gb234 (Nat.le_of_eq hg.symm)) hb); have n1_ := Aside0.mk (below_step (by repeat (first | (with_reducible first | exact HB.out | apply below_alloc | apply pw_below_drewN | apply below_drew1) | exact HB.out)) hb); have n2_ := Aside0.mk (hbox); have n3_ := Aside0.mk ((by rw [hg]; exact (below_size (by repeat (first | (with_reducible first | exact HB.out | apply below_alloc | apply pw_below_drewN | apply below_drew1) | exact HB.out))) : w.heap.size ≤ gb234)); have n4_ := Aside0.mk ((by rw [hg]; exact (below_size (by repeat (first | (with_reducible first | exact HB.out | apply below_alloc | apply pw_below_drewN | apply below_drew1) | exact HB.out))) : w.heap.size ≤ gb234)); clear HO_6; clear HB; have HO_6 := n0_; have HB := n1_; have BK234 := n2_; have GW234 := n3_; have GE234 := n4_; clear n0_ n1_ n2_ n3_ n4_; clear hb hbox hg; have hcz23_0 : w22.cell? ⟨gb234, 0, none⟩ = some (.int .i64 0) := (blk_cell BK234.out 0).trans rfl; have hcz23_1 : w22.cell? ⟨gb234, 1, none⟩ = some (.string (⟨#[]⟩ : ByteArray)) := (blk_cell BK234.out 1).trans rfl; have hcz23_2 : w22.cell? ⟨gb234, 2, none⟩ = some (.int .i64 0) := (blk_cell BK234.out 2).trans rfl; have hfz23_0 := blk_frozen BK234.out 0; have hfz23_1 := blk_frozen BK234.out 1; have hfz23_2 := blk_frozen BK234.out 2))
                      repeat (go_quiet (first | ((with_reducible refine gate_dst (N := 10) rfl ?_); (try (refine gate_guard (by rfl) ?_; dsimp only)); refine box_event ?hg (N := 10) ?hd (cs := #[.int .i64 0, .string (⟨#[]⟩ : ByteArray), .int .i64 0]) (t := 39) ?hr ?_; (case hd => rfl); (case hg => rfl); (case hr => first | (go_simp; done) | (go_simp; rfl)); intro gb234 hg w22 hbox hb; have n0_ := Aside0.mk (Kd.V_below (Kd.V_elderB (by (with_reducible repeat (first | apply Kd.V_alloc | apply Kd.V_drewN | apply Kd.V_drew)); exact HO_6.out) gb234 (Nat.le_of_eq hg.symm)) hb); have n1_ := Aside0.mk (below_step (by repeat (first | (with_reducible first | exact HB.out | apply below_alloc | apply pw_below_drewN | apply below_drew1) | exact HB.out)) hb); have n2_ := Aside0.mk (hbox); have n3_ := Aside0.mk ((by rw [hg]; exact (below_size (by repeat (first | (with_reducible first | exact HB.out | apply below_alloc | apply pw_below_drewN | apply below_drew1) | exact HB.out))) : w.heap.size ≤ gb234)); have n4_ := Aside0.mk ((by rw [hg]; exact (below_size (by repeat (first | (with_reducible first | exact HB.out | apply below_alloc | apply pw_below_drewN | apply below_drew1) | exact HB.out))) : w.heap.size ≤ gb234)); clear HO_6; clear HB; have HO_6 := n0_; have HB := n1_; have BK234 := n2_; have GW234 := n3_; have GE234 := n4_; clear n0_ n1_ n2_ n3_ n4_; clear hb hbox hg; have hcz23_0 : w22.cell? ⟨gb234, 0, none⟩ = some (.int .i64 0) := (blk_cell BK234.out 0).trans rfl; have hcz23_1 : w22.cell? ⟨gb234, 1, none⟩ = some (.string (⟨#[]⟩ : ByteArray)) := (blk_cell BK234.out 1).trans rfl; have hcz23_2 : w22.cell? ⟨gb234, 2, none⟩ = some (.int .i64 0) := (blk_cell BK234.out 2).trans rfl; have hfz23_0 := blk_frozen BK234.out 0; have hfz23_1 := blk_frozen BK234.out 1; have hfz23_2 := blk_frozen BK234.out 2)); go_upto_region 14 with (first | ((with_reducible refine gate_dst (N := 10) rfl ?_); (try (refine gate_guard (by rfl) ?_; dsimp only)); refine box_event ?hg (N := 10) ?hd (cs := #[.int .i64 0, .string (⟨#[]⟩ : ByteArray), .int .i64 0]) (t := 39) ?hr ?_; (case hd => rfl); (case hg => rfl); (case hr => first | (go_simp; done) | (go_simp; rfl)); intro gb234 hg w22 hbox hb; have n0_ := Aside0.mk (Kd.V_below (Kd.V_elderB (by (with_reducible repeat (first | apply Kd.V_alloc | apply Kd.V_drewN | apply Kd.V_drew)); exact HO_6.out) gb234 (Nat.le_of_eq hg.symm)) hb); have n1_ := Aside0.mk (below_step (by repeat (first | (with_reducible first | exact HB.out | apply below_alloc | apply pw_below_drewN | apply below_drew1) | exact HB.out)) hb); have n2_ := Aside0.mk (hbox); have n3_ := Aside0.mk ((by rw [hg]; exact (below_size (by repeat (first | (with_reducible first | exact HB.out | apply below_alloc | apply pw_below_drewN | apply below_drew1) | exact HB.out))) : w.heap.size ≤ gb234)); have n4_ := Aside0.mk ((by rw [hg]; exact (below_size (by repeat (first | (with_reducible first | exact HB.out | apply below_alloc | apply pw_below_drewN | apply below_drew1) | exact HB.out))) : w.heap.size ≤ gb234)); clear HO_6; clear HB; have HO_6 := n0_; have HB := n1_; have BK234 := n2_; have GW234 := n3_; have GE234 := n4_; clear n0_ n1_ n2_ n3_ n4_; clear hb hbox hg; have hcz23_0 : w22.cell? ⟨gb234, 0, none⟩ = some (.int .i64 0) := (blk_cell BK234.out 0).trans rfl; have hcz23_1 : w22.cell? ⟨gb234, 1, none⟩ = some (.string (⟨#[]⟩ : ByteArray)) := (blk_cell BK234.out 1).trans rfl; have hcz23_2 : w22.cell? ⟨gb234, 2, none⟩ = some (.int .i64 0) := (blk_cell BK234.out 2).trans rfl; have hfz23_0 := blk_frozen BK234.out 0; have hfz23_1 := blk_frozen BK234.out 1; have hfz23_2 := blk_frozen BK234.out 2)))
                      (try simp only [Act.put, List.setIfInBounds_toArray, List.set_cons_zero, List.set_cons_succ])
                      go_cut [108] (fun v108 wc => ∃ (kq : Nat) (x108_19 : Bool), v108 = .bool x108_19 ∧ Aside0 (ferrulelaw02_LexParts.j3 kq x0_1 t223 x8_3 x9_3 x108_19 ((rd_T39 t223 x9_3).f0) ((rd_T39 t223 x9_3).f1) ((rd_T39 t223 x9_3).f2) = some r) ∧ Aside0 (kq ≤ k3) ∧ Aside0 (Kd.V k39 39 wc w.heap.size (fun k_ => k_ ≠ gb234) (.slice (some ad233) t223.length co21) t223) ∧ Aside0 (wc.heap[gb234]? = some (.cells #[.int .i64 ((rd_T39 t223 x9_3).f0), .string ((rd_T39 t223 x9_3).f1), .int .i64 ((rd_T39 t223 x9_3).f2)] 39 (0, 0))) ∧ Aside0 (Below w.heap.size w wc))
                      case first =>
                        have H := HC20.out
                        clear HC20
                        by_cases c24 : ((rd_T39 t223 x9_3).f2) < x8_3
                        · rw [if_pos c24] at H
                          have c24b0 : decide (((rd_T39 t223 x9_3).f2) < x8_3) = true := decide_eq_true c24
                          clear c24
                          (first | rw [c24b0] | (simp only [i64_w, i32_w]; rw [c24b0]) | skip)
                          have H' := Aside0.mk H
                          clear H
                          have hcz25_0 : w22.cell? ⟨gb234, 0, none⟩ = some (.int .i64 0) := (blk_cell BK234.out 0).trans rfl
                          have hcz25_1 : w22.cell? ⟨gb234, 1, none⟩ = some (.string (⟨#[]⟩ : ByteArray)) := (blk_cell BK234.out 1).trans rfl
                          have hcz25_2 : w22.cell? ⟨gb234, 2, none⟩ = some (.int .i64 0) := (blk_cell BK234.out 2).trans rfl
                          have hfz25_0 := blk_frozen BK234.out 0
                          have hfz25_1 := blk_frozen BK234.out 1
                          have hfz25_2 := blk_frozen BK234.out 2
                          go_wp2
                          repeat (go_quiet (fail); try go_wp2)
                          go_meet
                          case rel => exact ⟨_, (true), (by first | rfl | (simp; done) | (simp [*]; done)), H', ⟨by have := HJ1.out; have := HJ6.out; have := HK3.out; first | omega | exact Nat.le_refl _⟩, ⟨by (with_reducible repeat (first | apply Kd.V_alloc | apply Kd.V_drewN | apply Kd.V_drew)); exact Kd.V_mono (Kd.V_far (p := ⟨gb234, 2, none⟩) (Kd.V_far (p := ⟨gb234, 1, none⟩) (Kd.V_far (p := ⟨gb234, 0, none⟩) (Kd.V_mono HO_6.out (fun k_ hk => (⟨hk, hk.2⟩ : _ ∧ k_ ≠ gb234))) (fun _ hk => hk.2) (.int .i64 ((rd_T39 t223 x9_3).f0))) (fun _ hk => hk.2) (.string ((rd_T39 t223 x9_3).f1))) (fun _ hk => hk.2) (.int .i64 ((rd_T39 t223 x9_3).f2))) (fun _ hk => hk.1.2)⟩, ⟨by (with_reducible repeat (first | refine blk_drewN ?_ _ | refine blk_drew ?_ | refine blk_alloc ?_ _)); refine blk_put (cs := #[.int .i64 ((rd_T39 t223 x9_3).f0), .string ((rd_T39 t223 x9_3).f1), .int .i64 0]) ?_ 2 _ rfl; (with_reducible repeat (first | refine blk_drewN ?_ _ | refine blk_drew ?_ | refine blk_alloc ?_ _)); refine blk_put (cs := #[.int .i64 ((rd_T39 t223 x9_3).f0), .string (⟨#[]⟩ : ByteArray), .int .i64 0]) ?_ 1 _ rfl; (with_reducible repeat (first | refine blk_drewN ?_ _ | refine blk_drew ?_ | refine blk_alloc ?_ _)); refine blk_put (cs := #[.int .i64 0, .string (⟨#[]⟩ : ByteArray), .int .i64 0]) ?_ 0 _ rfl; (with_reducible repeat (first | refine blk_drewN ?_ _ | refine blk_drew ?_ | refine blk_alloc ?_ _)); exact BK234.out⟩, ⟨by repeat (first | (with_reducible first | exact HB.out | apply below_alloc | apply pw_below_drewN | apply below_drew1 | refine below_set ?_ GE234.out) | exact HB.out)⟩⟩
                        · rw [if_neg c24] at H
                          have c24b0 : decide (((rd_T39 t223 x9_3).f2) < x8_3) = false := decide_eq_false c24
                          clear c24
                          (first | rw [c24b0] | (simp only [i64_w, i32_w]; rw [c24b0]) | skip)
                          by_cases c26 : (wrap64 (((rd_T39 t223 x9_3).f2) + (((rd_T39 t223 x9_3).f1).size : Int))) > (x0_1.size : Int)
                          · rw [if_pos c26] at H
                            have c26b0 : decide ((x0_1.size : Int) < (wrap64 (((rd_T39 t223 x9_3).f2) + (((rd_T39 t223 x9_3).f1).size : Int)))) = true := decide_eq_true c26
                            clear c26
                            have H' := Aside0.mk H
                            clear H
                            have hcz27_0 : w22.cell? ⟨gb234, 0, none⟩ = some (.int .i64 0) := (blk_cell BK234.out 0).trans rfl
                            have hcz27_1 : w22.cell? ⟨gb234, 1, none⟩ = some (.string (⟨#[]⟩ : ByteArray)) := (blk_cell BK234.out 1).trans rfl
                            have hcz27_2 : w22.cell? ⟨gb234, 2, none⟩ = some (.int .i64 0) := (blk_cell BK234.out 2).trans rfl
                            have hfz27_0 := blk_frozen BK234.out 0
                            have hfz27_1 := blk_frozen BK234.out 1
                            have hfz27_2 := blk_frozen BK234.out 2
                            go_wp2
                            repeat (go_quiet (fail); try go_wp2)
                            go_meet
                            case rel => exact ⟨_, (true), (by first | rfl | (simp; done) | (simp [*]; done)), H', ⟨by have := HJ1.out; have := HJ6.out; have := HK3.out; first | omega | exact Nat.le_refl _⟩, ⟨by (with_reducible repeat (first | apply Kd.V_alloc | apply Kd.V_drewN | apply Kd.V_drew)); exact Kd.V_mono (Kd.V_far (p := ⟨gb234, 2, none⟩) (Kd.V_far (p := ⟨gb234, 1, none⟩) (Kd.V_far (p := ⟨gb234, 0, none⟩) (Kd.V_mono HO_6.out (fun k_ hk => (⟨hk, hk.2⟩ : _ ∧ k_ ≠ gb234))) (fun _ hk => hk.2) (.int .i64 ((rd_T39 t223 x9_3).f0))) (fun _ hk => hk.2) (.string ((rd_T39 t223 x9_3).f1))) (fun _ hk => hk.2) (.int .i64 ((rd_T39 t223 x9_3).f2))) (fun _ hk => hk.1.2)⟩, ⟨by (with_reducible repeat (first | refine blk_drewN ?_ _ | refine blk_drew ?_ | refine blk_alloc ?_ _)); refine blk_put (cs := #[.int .i64 ((rd_T39 t223 x9_3).f0), .string ((rd_T39 t223 x9_3).f1), .int .i64 0]) ?_ 2 _ rfl; (with_reducible repeat (first | refine blk_drewN ?_ _ | refine blk_drew ?_ | refine blk_alloc ?_ _)); refine blk_put (cs := #[.int .i64 ((rd_T39 t223 x9_3).f0), .string (⟨#[]⟩ : ByteArray), .int .i64 0]) ?_ 1 _ rfl; (with_reducible repeat (first | refine blk_drewN ?_ _ | refine blk_drew ?_ | refine blk_alloc ?_ _)); refine blk_put (cs := #[.int .i64 0, .string (⟨#[]⟩ : ByteArray), .int .i64 0]) ?_ 0 _ rfl; (with_reducible repeat (first | refine blk_drewN ?_ _ | refine blk_drew ?_ | refine blk_alloc ?_ _)); exact BK234.out⟩, ⟨by repeat (first | (with_reducible first | exact HB.out | apply below_alloc | apply pw_below_drewN | apply below_drew1 | refine below_set ?_ GE234.out) | exact HB.out)⟩⟩
                          · rw [if_neg c26] at H
                            have c26b0 : decide ((x0_1.size : Int) < (wrap64 (((rd_T39 t223 x9_3).f2) + (((rd_T39 t223 x9_3).f1).size : Int)))) = false := decide_eq_false c26
                            clear c26
                            by_cases c28 : (((rd_T39 t223 x9_3).f1).size : Int) = 0
                            · rw [if_pos c28] at H
                              have c28b0 : ((((rd_T39 t223 x9_3).f1).size : Int) == 0) = true := beq_iff_eq.mpr c28
                              have c28b1 : ((((rd_T39 t223 x9_3).f1).size : Int) != 0) = false := bne_eq_false_iff_eq.mpr c28
                              clear c28
                              have H' := Aside0.mk H
                              clear H
                              have hcz29_0 : w22.cell? ⟨gb234, 0, none⟩ = some (.int .i64 0) := (blk_cell BK234.out 0).trans rfl
                              have hcz29_1 : w22.cell? ⟨gb234, 1, none⟩ = some (.string (⟨#[]⟩ : ByteArray)) := (blk_cell BK234.out 1).trans rfl
                              have hcz29_2 : w22.cell? ⟨gb234, 2, none⟩ = some (.int .i64 0) := (blk_cell BK234.out 2).trans rfl
                              have hfz29_0 := blk_frozen BK234.out 0
                              have hfz29_1 := blk_frozen BK234.out 1
                              have hfz29_2 := blk_frozen BK234.out 2
                              go_wp2
                              repeat (go_quiet (fail); try go_wp2)
                              go_meet
                              case rel => exact ⟨_, (true), (by first | rfl | (simp; done) | (simp [*]; done)), H', ⟨by have := HJ1.out; have := HJ6.out; have := HK3.out; first | omega | exact Nat.le_refl _⟩, ⟨by (with_reducible repeat (first | apply Kd.V_alloc | apply Kd.V_drewN | apply Kd.V_drew)); exact Kd.V_mono (Kd.V_far (p := ⟨gb234, 2, none⟩) (Kd.V_far (p := ⟨gb234, 1, none⟩) (Kd.V_far (p := ⟨gb234, 0, none⟩) (Kd.V_mono HO_6.out (fun k_ hk => (⟨hk, hk.2⟩ : _ ∧ k_ ≠ gb234))) (fun _ hk => hk.2) (.int .i64 ((rd_T39 t223 x9_3).f0))) (fun _ hk => hk.2) (.string ((rd_T39 t223 x9_3).f1))) (fun _ hk => hk.2) (.int .i64 ((rd_T39 t223 x9_3).f2))) (fun _ hk => hk.1.2)⟩, ⟨by (with_reducible repeat (first | refine blk_drewN ?_ _ | refine blk_drew ?_ | refine blk_alloc ?_ _)); refine blk_put (cs := #[.int .i64 ((rd_T39 t223 x9_3).f0), .string ((rd_T39 t223 x9_3).f1), .int .i64 0]) ?_ 2 _ rfl; (with_reducible repeat (first | refine blk_drewN ?_ _ | refine blk_drew ?_ | refine blk_alloc ?_ _)); refine blk_put (cs := #[.int .i64 ((rd_T39 t223 x9_3).f0), .string (⟨#[]⟩ : ByteArray), .int .i64 0]) ?_ 1 _ rfl; (with_reducible repeat (first | refine blk_drewN ?_ _ | refine blk_drew ?_ | refine blk_alloc ?_ _)); refine blk_put (cs := #[.int .i64 0, .string (⟨#[]⟩ : ByteArray), .int .i64 0]) ?_ 0 _ rfl; (with_reducible repeat (first | refine blk_drewN ?_ _ | refine blk_drew ?_ | refine blk_alloc ?_ _)); exact BK234.out⟩, ⟨by repeat (first | (with_reducible first | exact HB.out | apply below_alloc | apply pw_below_drewN | apply below_drew1 | refine below_set ?_ GE234.out) | exact HB.out)⟩⟩
                            · rw [if_neg c28] at H
                              have c28b0 : ((((rd_T39 t223 x9_3).f1).size : Int) == 0) = false := beq_eq_false_iff_ne.mpr c28
                              have c28b1 : ((((rd_T39 t223 x9_3).f1).size : Int) != 0) = true := bne_iff_ne.mpr c28
                              by_cases c30 : 0 ≤ ((rd_T39 t223 x9_3).f2)
                              · rw [if_pos c30] at H
                                have c30b0 := eq_true c30
                                have c30b1 : decide (0 ≤ ((rd_T39 t223 x9_3).f2)) = true := decide_eq_true c30
                                clear c30
                                by_cases c31 : ((rd_T39 t223 x9_3).f2) ≤ (wrap64 (((rd_T39 t223 x9_3).f2) + (((rd_T39 t223 x9_3).f1).size : Int)))
                                · rw [if_pos c31] at H
                                  have c31b0 := eq_true c31
                                  have c31b1 : decide (((rd_T39 t223 x9_3).f2) ≤ (wrap64 (((rd_T39 t223 x9_3).f2) + (((rd_T39 t223 x9_3).f1).size : Int)))) = true := decide_eq_true c31
                                  by_cases c32 : (wrap64 (((rd_T39 t223 x9_3).f2) + (((rd_T39 t223 x9_3).f1).size : Int))) ≤ (x0_1.size : Int)
                                  · rw [if_pos c32] at H
                                    have c32b0 := eq_true c32
                                    have c32b1 : decide ((wrap64 (((rd_T39 t223 x9_3).f2) + (((rd_T39 t223 x9_3).f1).size : Int))) ≤ (x0_1.size : Int)) = true := decide_eq_true c32
                                    have H' := Aside0.mk H
                                    clear H
                                    have hcz33_0 : w22.cell? ⟨gb234, 0, none⟩ = some (.int .i64 0) := (blk_cell BK234.out 0).trans rfl
                                    have hcz33_1 : w22.cell? ⟨gb234, 1, none⟩ = some (.string (⟨#[]⟩ : ByteArray)) := (blk_cell BK234.out 1).trans rfl
                                    have hcz33_2 : w22.cell? ⟨gb234, 2, none⟩ = some (.int .i64 0) := (blk_cell BK234.out 2).trans rfl
                                    have hfz33_0 := blk_frozen BK234.out 0
                                    have hfz33_1 := blk_frozen BK234.out 1
                                    have hfz33_2 := blk_frozen BK234.out 2
                                    go_wp2
                                    repeat (go_quiet (fail); try go_wp2)
                                    go_meet
                                    case rel => exact ⟨_, (((x0_1.extract (((rd_T39 t223 x9_3).f2) : Int).toNat ((wrap64 (((rd_T39 t223 x9_3).f2) + (((rd_T39 t223 x9_3).f1).size : Int))) : Int).toNat).toList != ((rd_T39 t223 x9_3).f1).toList)), (by first | rfl | (simp; done) | (simp [*]; done)), H', ⟨by have := HJ1.out; have := HJ6.out; have := HK3.out; first | omega | exact Nat.le_refl _⟩, ⟨by (with_reducible repeat (first | apply Kd.V_alloc | apply Kd.V_drewN | apply Kd.V_drew)); exact Kd.V_mono (Kd.V_far (p := ⟨gb234, 2, none⟩) (Kd.V_far (p := ⟨gb234, 1, none⟩) (Kd.V_far (p := ⟨gb234, 0, none⟩) (Kd.V_mono HO_6.out (fun k_ hk => (⟨hk, hk.2⟩ : _ ∧ k_ ≠ gb234))) (fun _ hk => hk.2) (.int .i64 ((rd_T39 t223 x9_3).f0))) (fun _ hk => hk.2) (.string ((rd_T39 t223 x9_3).f1))) (fun _ hk => hk.2) (.int .i64 ((rd_T39 t223 x9_3).f2))) (fun _ hk => hk.1.2)⟩, ⟨by (with_reducible repeat (first | refine blk_drewN ?_ _ | refine blk_drew ?_ | refine blk_alloc ?_ _)); refine blk_put (cs := #[.int .i64 ((rd_T39 t223 x9_3).f0), .string ((rd_T39 t223 x9_3).f1), .int .i64 0]) ?_ 2 _ rfl; (with_reducible repeat (first | refine blk_drewN ?_ _ | refine blk_drew ?_ | refine blk_alloc ?_ _)); refine blk_put (cs := #[.int .i64 ((rd_T39 t223 x9_3).f0), .string (⟨#[]⟩ : ByteArray), .int .i64 0]) ?_ 1 _ rfl; (with_reducible repeat (first | refine blk_drewN ?_ _ | refine blk_drew ?_ | refine blk_alloc ?_ _)); refine blk_put (cs := #[.int .i64 0, .string (⟨#[]⟩ : ByteArray), .int .i64 0]) ?_ 0 _ rfl; (with_reducible repeat (first | refine blk_drewN ?_ _ | refine blk_drew ?_ | refine blk_alloc ?_ _)); exact BK234.out⟩, ⟨by repeat (first | (with_reducible first | exact HB.out | apply below_alloc | apply pw_below_drewN | apply below_drew1 | refine below_set ?_ GE234.out) | exact HB.out)⟩⟩
                                  · rw [if_neg c32] at H
                                    exact absurd H (by simp)
                                · rw [if_neg c31] at H
                                  exact absurd H (by simp)
                              · rw [if_neg c30] at H
                                exact absurd H (by simp)
                      case rest =>
                        clear HC20
                        try clear c1
                        try clear c2
                        try clear p2
                        try clear q2
                        try clear hx2
                        try clear qi2
                        try clear c3
                        try clear c3b0
                        try clear c3b1
                        try clear c4
                        try clear c4b0
                        try clear c4b1
                        try clear c5
                        try clear c5b0
                        try clear c5b1
                        try clear p6
                        try clear c9
                        try clear c9b0
                        try clear c9b1
                        try clear c10
                        try clear c10b0
                        try clear c10b1
                        try clear c11
                        try clear c11b0
                        try clear c11b1
                        try clear c14
                        try clear c16
                        try clear c16b0
                        try clear c16b1
                        try clear c18
                        try clear c18b0
                        try clear c19
                        try clear c19b0
                        try clear p22
                        try clear q22
                        try clear hx22
                        try clear qi22
                        try clear p23
                        try clear q23
                        try clear hx23
                        try clear c24
                        try clear c24b0
                        try clear c26
                        try clear c26b0
                        try clear c28
                        try clear c28b0
                        try clear c28b1
                        try clear c30
                        try clear c30b0
                        try clear c30b1
                        try clear c31
                        try clear c31b0
                        try clear c31b1
                        try clear c32
                        try clear c32b0
                        try clear c32b1
                        try clear hcz23_0
                        try clear hcz23_1
                        try clear hcz23_2
                        try clear hcz25_0
                        try clear hcz25_1
                        try clear hcz25_2
                        try clear hcz27_0
                        try clear hcz27_1
                        try clear hcz27_2
                        try clear hcz29_0
                        try clear hcz29_1
                        try clear hcz29_2
                        try clear hcz33_0
                        try clear hcz33_1
                        try clear hcz33_2
                        try clear hfz23_0
                        try clear hfz23_1
                        try clear hfz23_2
                        try clear hfz25_0
                        try clear hfz25_1
                        try clear hfz25_2
                        try clear hfz27_0
                        try clear hfz27_1
                        try clear hfz27_2
                        try clear hfz29_0
                        try clear hfz29_1
                        try clear hfz29_2
                        try clear hfz33_0
                        try clear hfz33_1
                        try clear hfz33_2
                        try clear hx222_0
                        try clear hx222_1
                        try clear hx222_2
                        try clear hx233_0
                        try clear hx233_1
                        try clear hx233_2
                        try clear p2
                        try clear p222
                        try clear p233
                        try clear q2
                        try clear q222
                        try clear q233
                        obtain ⟨kq, x108_19, rfl, HA, HJ19, HO_6, BK234, HB⟩ := hcut
                        cases kq with
                        | zero => exact absurd HA.out (by simp [ferrulelaw02_LexParts.j3])
                        | succ kj19 =>
                          have H := HA.out
                          clear HA
                          simp only [ferrulelaw02_LexParts.j3] at H
                          by_cases c34 : x108_19 = true
                          · subst c34
                            have H1 : (some false) = some r := by rw [if_pos rfl] at H; exact H
                            clear H
                            have H := H1
                            clear H1
                            obtain rfl := Option.some.inj H
                            go_wp2
                            repeat (go_quiet (fail); try go_wp2)
                            go_ret
                            exact ⟨by first | rfl | (simp [errW_none, errW_some] <;> rfl) | (simp [*, errW_none, errW_some] <;> rfl), by repeat (first | (with_reducible first | exact HB.out | apply below_alloc | apply pw_below_drewN | apply below_drew1 | refine below_set ?_ GE234.out) | exact HB.out)⟩
                          · replace c34 := Bool.eq_false_iff.mpr c34
                            subst c34
                            have H1 : ((lex_Lex.f kj19 ((rd_T39 t223 x9_3).f1)).bind fun bt235 => (if bt235.2.2 = 0 then (if (bt235.1.length : Int) = 1 then (if 0 < (bt235.1.length : Int) then (if ((rd_T39 bt235.1 0).f0) = ((rd_T39 t223 x9_3).f0) then (ferrulelaw02_LexParts.j4 kj19 x0_1 t223 x8_3 x9_3 (((rd_T39 bt235.1 0).f1).toList != ((rd_T39 t223 x9_3).f1).toList) ((rd_T39 t223 x9_3).f0) ((rd_T39 t223 x9_3).f1) ((rd_T39 t223 x9_3).f2)) else (ferrulelaw02_LexParts.j4 kj19 x0_1 t223 x8_3 x9_3 true ((rd_T39 t223 x9_3).f0) ((rd_T39 t223 x9_3).f1) ((rd_T39 t223 x9_3).f2))) else (none)) else (ferrulelaw02_LexParts.j4 kj19 x0_1 t223 x8_3 x9_3 true ((rd_T39 t223 x9_3).f0) ((rd_T39 t223 x9_3).f1) ((rd_T39 t223 x9_3).f2))) else (ferrulelaw02_LexParts.j4 kj19 x0_1 t223 x8_3 x9_3 true ((rd_T39 t223 x9_3).f0) ((rd_T39 t223 x9_3).f1) ((rd_T39 t223 x9_3).f2)))) = some r := by rw [if_neg (show ¬ (false = true) by decide)] at H; exact H
                            clear H
                            have H := H1
                            clear H1
                            replace H := Option.bind_eq_some_iff.mp H
                            obtain ⟨⟨t235, t238, t239⟩, A350, H⟩ := H
                            replace H : (if t239 = 0 then (if (t235.length : Int) = 1 then (if 0 < (t235.length : Int) then (if ((rd_T39 t235 0).f0) = ((rd_T39 t223 x9_3).f0) then (ferrulelaw02_LexParts.j4 kj19 x0_1 t223 x8_3 x9_3 (((rd_T39 t235 0).f1).toList != ((rd_T39 t223 x9_3).f1).toList) ((rd_T39 t223 x9_3).f0) ((rd_T39 t223 x9_3).f1) ((rd_T39 t223 x9_3).f2)) else (ferrulelaw02_LexParts.j4 kj19 x0_1 t223 x8_3 x9_3 true ((rd_T39 t223 x9_3).f0) ((rd_T39 t223 x9_3).f1) ((rd_T39 t223 x9_3).f2))) else (none)) else (ferrulelaw02_LexParts.j4 kj19 x0_1 t223 x8_3 x9_3 true ((rd_T39 t223 x9_3).f0) ((rd_T39 t223 x9_3).f1) ((rd_T39 t223 x9_3).f2))) else (ferrulelaw02_LexParts.j4 kj19 x0_1 t223 x8_3 x9_3 true ((rd_T39 t223 x9_3).f0) ((rd_T39 t223 x9_3).f1) ((rd_T39 t223 x9_3).f2))) = some r := H
                            have A35 := Aside0.mk A350
                            clear A350
                            have HC36 := Aside0.mk H
                            clear H
                            have hcz37_0 : wc.cell? ⟨gb234, 0, none⟩ = some (.int .i64 ((rd_T39 t223 x9_3).f0)) := (blk_cell BK234.out 0).trans rfl
                            have hcz37_1 : wc.cell? ⟨gb234, 1, none⟩ = some (.string ((rd_T39 t223 x9_3).f1)) := (blk_cell BK234.out 1).trans rfl
                            have hcz37_2 : wc.cell? ⟨gb234, 2, none⟩ = some (.int .i64 ((rd_T39 t223 x9_3).f2)) := (blk_cell BK234.out 2).trans rfl
                            have hfz37_0 := blk_frozen BK234.out 0
                            have hfz37_1 := blk_frozen BK234.out 1
                            have hfz37_2 := blk_frozen BK234.out 2
                            go_upto_region 17 with (first | (go_at_call 8; (with_reducible refine (lex_Lex.calls kj19 ((rd_T39 t223 x9_3).f1) t235 t238 t239 _ (Gl.below HG.out (by repeat (first | (with_reducible first | exact HB.out | apply below_alloc | apply pw_below_drewN | apply below_drew1) | exact HB.out))) A35.out).mono ?_); rintro e w38 ⟨v236, rfl, ho0, hb⟩; have n0_ := Aside0.mk (Kd.V_below (by (with_reducible repeat (first | apply Kd.V_alloc | apply Kd.V_drewN | apply Kd.V_drew)); exact HO_6.out) hb); have n1_ := Aside0.mk (Kd.V_lower (Kd.V_mono (ok' := fun k_ => k_ ≠ gb234) ho0 (fun k_ hk_ => (Kd.freshB (g := gb234) (o := .cells #[.int .i64 ((rd_T39 t223 x9_3).f0), .string ((rd_T39 t223 x9_3).f1), .int .i64 ((rd_T39 t223 x9_3).f2)] 39 (0, 0)) (by (with_reducible repeat (first | refine blk_drewN ?_ _ | refine blk_drew ?_ | refine blk_alloc ?_ _)); exact BK234.out) k_ hk_))) (below_size (by repeat (first | (with_reducible first | exact HB.out | apply below_alloc | apply pw_below_drewN | apply below_drew1 | refine below_set ?_ GE234.out) | exact HB.out)))); have n2_ := Aside0.mk (blk_below (g := gb234) (o := .cells #[.int .i64 ((rd_T39 t223 x9_3).f0), .string ((rd_T39 t223 x9_3).f1), .int .i64 ((rd_T39 t223 x9_3).f2)] 39 (0, 0)) (by (with_reducible repeat (first | refine blk_drewN ?_ _ | refine blk_drew ?_ | refine blk_alloc ?_ _)); exact BK234.out) hb); have n3_ := Aside0.mk (below_step (by repeat (first | (with_reducible first | exact HB.out | apply below_alloc | apply pw_below_drewN | apply below_drew1 | refine below_set ?_ GE234.out) | exact HB.out)) hb); clear HO_6; clear BK234; clear HB; have HO_6 := n0_; have HO237 := n1_; have BK234 := n2_; have HB := n3_; clear n0_ n1_ n2_ n3_; (try clear hb); (try clear hb2); (try clear hk); (try clear hi); (try clear ho0)))
                            repeat (go_quiet (first | (go_at_call 8; (with_reducible refine (lex_Lex.calls kj19 ((rd_T39 t223 x9_3).f1) t235 t238 t239 _ (Gl.below HG.out (by repeat (first | (with_reducible first | exact HB.out | apply below_alloc | apply pw_below_drewN | apply below_drew1) | exact HB.out))) A35.out).mono ?_); rintro e w38 ⟨v236, rfl, ho0, hb⟩; have n0_ := Aside0.mk (Kd.V_below (by (with_reducible repeat (first | apply Kd.V_alloc | apply Kd.V_drewN | apply Kd.V_drew)); exact HO_6.out) hb); have n1_ := Aside0.mk (Kd.V_lower (Kd.V_mono (ok' := fun k_ => k_ ≠ gb234) ho0 (fun k_ hk_ => (Kd.freshB (g := gb234) (o := .cells #[.int .i64 ((rd_T39 t223 x9_3).f0), .string ((rd_T39 t223 x9_3).f1), .int .i64 ((rd_T39 t223 x9_3).f2)] 39 (0, 0)) (by (with_reducible repeat (first | refine blk_drewN ?_ _ | refine blk_drew ?_ | refine blk_alloc ?_ _)); exact BK234.out) k_ hk_))) (below_size (by repeat (first | (with_reducible first | exact HB.out | apply below_alloc | apply pw_below_drewN | apply below_drew1 | refine below_set ?_ GE234.out) | exact HB.out)))); have n2_ := Aside0.mk (blk_below (g := gb234) (o := .cells #[.int .i64 ((rd_T39 t223 x9_3).f0), .string ((rd_T39 t223 x9_3).f1), .int .i64 ((rd_T39 t223 x9_3).f2)] 39 (0, 0)) (by (with_reducible repeat (first | refine blk_drewN ?_ _ | refine blk_drew ?_ | refine blk_alloc ?_ _)); exact BK234.out) hb); have n3_ := Aside0.mk (below_step (by repeat (first | (with_reducible first | exact HB.out | apply below_alloc | apply pw_below_drewN | apply below_drew1 | refine below_set ?_ GE234.out) | exact HB.out)) hb); clear HO_6; clear BK234; clear HB; have HO_6 := n0_; have HO237 := n1_; have BK234 := n2_; have HB := n3_; clear n0_ n1_ n2_ n3_; (try clear hb); (try clear hb2); (try clear hk); (try clear hi); (try clear ho0))); go_upto_region 17 with (first | (go_at_call 8; (with_reducible refine (lex_Lex.calls kj19 ((rd_T39 t223 x9_3).f1) t235 t238 t239 _ (Gl.below HG.out (by repeat (first | (with_reducible first | exact HB.out | apply below_alloc | apply pw_below_drewN | apply below_drew1) | exact HB.out))) A35.out).mono ?_); rintro e w38 ⟨v236, rfl, ho0, hb⟩; have n0_ := Aside0.mk (Kd.V_below (by (with_reducible repeat (first | apply Kd.V_alloc | apply Kd.V_drewN | apply Kd.V_drew)); exact HO_6.out) hb); have n1_ := Aside0.mk (Kd.V_lower (Kd.V_mono (ok' := fun k_ => k_ ≠ gb234) ho0 (fun k_ hk_ => (Kd.freshB (g := gb234) (o := .cells #[.int .i64 ((rd_T39 t223 x9_3).f0), .string ((rd_T39 t223 x9_3).f1), .int .i64 ((rd_T39 t223 x9_3).f2)] 39 (0, 0)) (by (with_reducible repeat (first | refine blk_drewN ?_ _ | refine blk_drew ?_ | refine blk_alloc ?_ _)); exact BK234.out) k_ hk_))) (below_size (by repeat (first | (with_reducible first | exact HB.out | apply below_alloc | apply pw_below_drewN | apply below_drew1 | refine below_set ?_ GE234.out) | exact HB.out)))); have n2_ := Aside0.mk (blk_below (g := gb234) (o := .cells #[.int .i64 ((rd_T39 t223 x9_3).f0), .string ((rd_T39 t223 x9_3).f1), .int .i64 ((rd_T39 t223 x9_3).f2)] 39 (0, 0)) (by (with_reducible repeat (first | refine blk_drewN ?_ _ | refine blk_drew ?_ | refine blk_alloc ?_ _)); exact BK234.out) hb); have n3_ := Aside0.mk (below_step (by repeat (first | (with_reducible first | exact HB.out | apply below_alloc | apply pw_below_drewN | apply below_drew1 | refine below_set ?_ GE234.out) | exact HB.out)) hb); clear HO_6; clear BK234; clear HB; have HO_6 := n0_; have HO237 := n1_; have BK234 := n2_; have HB := n3_; clear n0_ n1_ n2_ n3_; (try clear hb); (try clear hb2); (try clear hk); (try clear hi); (try clear ho0))))
                            (try simp only [Act.put, List.setIfInBounds_toArray, List.set_cons_zero, List.set_cons_succ])
                            go_cut [140] (fun v140 wc => ∃ (kq : Nat) (x140_35 : Bool), v140 = .bool x140_35 ∧ Aside0 (ferrulelaw02_LexParts.j4 kq x0_1 t223 x8_3 x9_3 x140_35 ((rd_T39 t223 x9_3).f0) ((rd_T39 t223 x9_3).f1) ((rd_T39 t223 x9_3).f2) = some r) ∧ Aside0 (kq ≤ kj19) ∧ Aside0 (Kd.V k39 39 wc w.heap.size (fun k_ => k_ ≠ gb234) (.slice (some ad233) t223.length co21) t223) ∧ Aside0 (wc.heap[gb234]? = some (.cells #[.int .i64 ((rd_T39 t223 x9_3).f0), .string ((rd_T39 t223 x9_3).f1), .int .i64 ((rd_T39 t223 x9_3).f2)] 39 (0, 0))) ∧ Aside0 (Below w.heap.size w wc))
                            case first =>
                              have H := HC36.out
                              clear HC36
                              by_cases c39 : t239 = 0
                              · rw [if_pos c39] at H
                                have c39b0 : (t239 == 0) = true := beq_iff_eq.mpr c39
                                have c39b1 : (t239 != 0) = false := bne_eq_false_iff_eq.mpr c39
                                clear c39
                                (first | rw [c39b0] | (simp only [i64_w, i32_w]; rw [c39b0]) | skip)
                                by_cases c40 : (t235.length : Int) = 1
                                · rw [if_pos c40] at H
                                  have c40b0 : ((t235.length : Int) == 1) = true := beq_iff_eq.mpr c40
                                  have c40b1 : ((t235.length : Int) != 1) = false := bne_eq_false_iff_eq.mpr c40
                                  clear c40
                                  by_cases c41 : 0 < (t235.length : Int)
                                  · rw [if_pos c41] at H
                                    have c41b0 : decide (0 < (t235.length : Int)) = true := decide_eq_true c41
                                    have c41b1 : decide (0 < t235.length) = true := decide_eq_true (by omega)
                                    clear c41
                                    by_cases c42 : ((rd_T39 t235 0).f0) = ((rd_T39 t223 x9_3).f0)
                                    · rw [if_pos c42] at H
                                      have c42b0 : (((rd_T39 t235 0).f0) == ((rd_T39 t223 x9_3).f0)) = true := beq_iff_eq.mpr c42
                                      have c42b1 : (((rd_T39 t235 0).f0) != ((rd_T39 t223 x9_3).f0)) = false := bne_eq_false_iff_eq.mpr c42
                                      clear c42
                                      have H' := Aside0.mk H
                                      clear H
                                      obtain ⟨Ao43, co43, eo43⟩ := Kd.V_slice HO237.out
                                      subst eo43
                                      have p240 : 0 ≤ (0 : Int) := (by omega)
                                      have q240 : 0 < (t235.length : Int) := of_decide_eq_true (by first | (with_reducible assumption) | assumption)
                                      obtain ⟨ad240, e240, hx240_0, hx240_1, hx240_2⟩ := at_T39 (Kd.V_reads' HO237.out).2.2 0 p240 q240
                                      cases e240
                                      have qi240 : (0 < t235.length) = True := eq_true (by omega)
                                      (try rw [show ((0 : Int)).toNat = 0 from rfl] at hx240_0)
                                      (try rw [show 0 * 3 = 0 from rfl] at hx240_0)
                                      (try rw [Addr.add_zero'] at hx240_0)
                                      (try rw [show ((0 : Int)).toNat = 0 from rfl] at hx240_1)
                                      (try rw [show 0 * 3 = 0 from rfl] at hx240_1)
                                      (try rw [Addr.add_zero'] at hx240_1)
                                      (try rw [show ((0 : Int)).toNat = 0 from rfl] at hx240_2)
                                      (try rw [show 0 * 3 = 0 from rfl] at hx240_2)
                                      (try rw [Addr.add_zero'] at hx240_2)
                                      replace p240 := eq_true p240
                                      replace q240 := eq_true q240
                                      have hcz44_0 : w38.cell? ⟨gb234, 0, none⟩ = some (.int .i64 ((rd_T39 t223 x9_3).f0)) := (blk_cell BK234.out 0).trans rfl
                                      have hcz44_1 : w38.cell? ⟨gb234, 1, none⟩ = some (.string ((rd_T39 t223 x9_3).f1)) := (blk_cell BK234.out 1).trans rfl
                                      have hcz44_2 : w38.cell? ⟨gb234, 2, none⟩ = some (.int .i64 ((rd_T39 t223 x9_3).f2)) := (blk_cell BK234.out 2).trans rfl
                                      have hfz44_0 := blk_frozen BK234.out 0
                                      have hfz44_1 := blk_frozen BK234.out 1
                                      have hfz44_2 := blk_frozen BK234.out 2
                                      have p241 : 0 ≤ (0 : Int) := (by omega)
                                      have q241 : 0 < (t235.length : Int) := of_decide_eq_true (by first | (with_reducible assumption) | assumption)
                                      obtain ⟨ad241, e241, hx241_0, hx241_1, hx241_2⟩ := at_T39 (Kd.V_reads' HO237.out).2.2 0 p241 q241
                                      obtain rfl : ad240 = ad241 := (by injection e241)
                                      have qi241 : (0 < t235.length) = True := eq_true (by omega)
                                      (try rw [show ((0 : Int)).toNat = 0 from rfl] at hx241_0)
                                      (try rw [show 0 * 3 = 0 from rfl] at hx241_0)
                                      (try rw [Addr.add_zero'] at hx241_0)
                                      (try rw [show ((0 : Int)).toNat = 0 from rfl] at hx241_1)
                                      (try rw [show 0 * 3 = 0 from rfl] at hx241_1)
                                      (try rw [Addr.add_zero'] at hx241_1)
                                      (try rw [show ((0 : Int)).toNat = 0 from rfl] at hx241_2)
                                      (try rw [show 0 * 3 = 0 from rfl] at hx241_2)
                                      (try rw [Addr.add_zero'] at hx241_2)
                                      replace p241 := eq_true p241
                                      replace q241 := eq_true q241
                                      go_wp2
                                      repeat (go_quiet (fail); try go_wp2)
                                      go_meet
                                      case rel => exact ⟨_, ((((rd_T39 t235 0).f1).toList != ((rd_T39 t223 x9_3).f1).toList)), (by first | rfl | (simp; done) | (simp [*]; done)), H', ⟨by have := HJ1.out; have := HJ6.out; have := HK3.out; have := HJ19.out; first | omega | exact Nat.le_refl _⟩, ⟨by (with_reducible repeat (first | apply Kd.V_alloc | apply Kd.V_drewN | apply Kd.V_drew)); exact HO_6.out⟩, ⟨by (with_reducible repeat (first | refine blk_drewN ?_ _ | refine blk_drew ?_ | refine blk_alloc ?_ _)); exact BK234.out⟩, ⟨by repeat (first | (with_reducible first | exact HB.out | apply below_alloc | apply pw_below_drewN | apply below_drew1 | refine below_set ?_ GE234.out) | exact HB.out)⟩⟩
                                    · rw [if_neg c42] at H
                                      have c42b0 : (((rd_T39 t235 0).f0) == ((rd_T39 t223 x9_3).f0)) = false := beq_eq_false_iff_ne.mpr c42
                                      have c42b1 : (((rd_T39 t235 0).f0) != ((rd_T39 t223 x9_3).f0)) = true := bne_iff_ne.mpr c42
                                      have H' := Aside0.mk H
                                      clear H
                                      obtain ⟨Ao45, co45, eo45⟩ := Kd.V_slice HO237.out
                                      subst eo45
                                      have p240 : 0 ≤ (0 : Int) := (by omega)
                                      have q240 : 0 < (t235.length : Int) := of_decide_eq_true (by first | (with_reducible assumption) | assumption)
                                      obtain ⟨ad240, e240, hx240_0, hx240_1, hx240_2⟩ := at_T39 (Kd.V_reads' HO237.out).2.2 0 p240 q240
                                      cases e240
                                      have qi240 : (0 < t235.length) = True := eq_true (by omega)
                                      (try rw [show ((0 : Int)).toNat = 0 from rfl] at hx240_0)
                                      (try rw [show 0 * 3 = 0 from rfl] at hx240_0)
                                      (try rw [Addr.add_zero'] at hx240_0)
                                      (try rw [show ((0 : Int)).toNat = 0 from rfl] at hx240_1)
                                      (try rw [show 0 * 3 = 0 from rfl] at hx240_1)
                                      (try rw [Addr.add_zero'] at hx240_1)
                                      (try rw [show ((0 : Int)).toNat = 0 from rfl] at hx240_2)
                                      (try rw [show 0 * 3 = 0 from rfl] at hx240_2)
                                      (try rw [Addr.add_zero'] at hx240_2)
                                      replace p240 := eq_true p240
                                      replace q240 := eq_true q240
                                      have hcz46_0 : w38.cell? ⟨gb234, 0, none⟩ = some (.int .i64 ((rd_T39 t223 x9_3).f0)) := (blk_cell BK234.out 0).trans rfl
                                      have hcz46_1 : w38.cell? ⟨gb234, 1, none⟩ = some (.string ((rd_T39 t223 x9_3).f1)) := (blk_cell BK234.out 1).trans rfl
                                      have hcz46_2 : w38.cell? ⟨gb234, 2, none⟩ = some (.int .i64 ((rd_T39 t223 x9_3).f2)) := (blk_cell BK234.out 2).trans rfl
                                      have hfz46_0 := blk_frozen BK234.out 0
                                      have hfz46_1 := blk_frozen BK234.out 1
                                      have hfz46_2 := blk_frozen BK234.out 2
                                      go_wp2
                                      repeat (go_quiet (fail); try go_wp2)
                                      go_meet
                                      case rel => exact ⟨_, (true), (by first | rfl | (simp; done) | (simp [*]; done)), H', ⟨by have := HJ1.out; have := HJ6.out; have := HK3.out; have := HJ19.out; first | omega | exact Nat.le_refl _⟩, ⟨by (with_reducible repeat (first | apply Kd.V_alloc | apply Kd.V_drewN | apply Kd.V_drew)); exact HO_6.out⟩, ⟨by (with_reducible repeat (first | refine blk_drewN ?_ _ | refine blk_drew ?_ | refine blk_alloc ?_ _)); exact BK234.out⟩, ⟨by repeat (first | (with_reducible first | exact HB.out | apply below_alloc | apply pw_below_drewN | apply below_drew1 | refine below_set ?_ GE234.out) | exact HB.out)⟩⟩
                                  · rw [if_neg c41] at H
                                    exact absurd H (by simp)
                                · rw [if_neg c40] at H
                                  have c40b0 : ((t235.length : Int) == 1) = false := beq_eq_false_iff_ne.mpr c40
                                  have c40b1 : ((t235.length : Int) != 1) = true := bne_iff_ne.mpr c40
                                  have H' := Aside0.mk H
                                  clear H
                                  obtain ⟨Ao47, co47, eo47⟩ := Kd.V_slice HO237.out
                                  subst eo47
                                  go_wp2
                                  repeat (go_quiet (fail); try go_wp2)
                                  go_meet
                                  case rel => exact ⟨_, (true), (by first | rfl | (simp; done) | (simp [*]; done)), H', ⟨by have := HJ1.out; have := HJ6.out; have := HK3.out; have := HJ19.out; first | omega | exact Nat.le_refl _⟩, ⟨by (with_reducible repeat (first | apply Kd.V_alloc | apply Kd.V_drewN | apply Kd.V_drew)); exact HO_6.out⟩, ⟨by (with_reducible repeat (first | refine blk_drewN ?_ _ | refine blk_drew ?_ | refine blk_alloc ?_ _)); exact BK234.out⟩, ⟨by repeat (first | (with_reducible first | exact HB.out | apply below_alloc | apply pw_below_drewN | apply below_drew1 | refine below_set ?_ GE234.out) | exact HB.out)⟩⟩
                              · rw [if_neg c39] at H
                                have c39b0 : (t239 == 0) = false := beq_eq_false_iff_ne.mpr c39
                                have c39b1 : (t239 != 0) = true := bne_iff_ne.mpr c39
                                (first | rw [c39b0] | (simp only [i64_w, i32_w]; rw [c39b0]) | skip)
                                have H' := Aside0.mk H
                                clear H
                                go_wp2
                                repeat (go_quiet (fail); try go_wp2)
                                go_meet
                                case rel => exact ⟨_, (true), (by first | rfl | (simp; done) | (simp [*]; done)), H', ⟨by have := HJ1.out; have := HJ6.out; have := HK3.out; have := HJ19.out; first | omega | exact Nat.le_refl _⟩, ⟨by (with_reducible repeat (first | apply Kd.V_alloc | apply Kd.V_drewN | apply Kd.V_drew)); exact HO_6.out⟩, ⟨by (with_reducible repeat (first | refine blk_drewN ?_ _ | refine blk_drew ?_ | refine blk_alloc ?_ _)); exact BK234.out⟩, ⟨by repeat (first | (with_reducible first | exact HB.out | apply below_alloc | apply pw_below_drewN | apply below_drew1 | refine below_set ?_ GE234.out) | exact HB.out)⟩⟩
                            case rest =>
                              clear HC36
                              try clear c1
                              try clear c2
                              try clear p2
                              try clear q2
                              try clear hx2
                              try clear qi2
                              try clear c3
                              try clear c3b0
                              try clear c3b1
                              try clear c4
                              try clear c4b0
                              try clear c4b1
                              try clear c5
                              try clear c5b0
                              try clear c5b1
                              try clear p6
                              try clear c9
                              try clear c9b0
                              try clear c9b1
                              try clear c10
                              try clear c10b0
                              try clear c10b1
                              try clear c11
                              try clear c11b0
                              try clear c11b1
                              try clear c14
                              try clear c16
                              try clear c16b0
                              try clear c16b1
                              try clear c18
                              try clear c18b0
                              try clear c19
                              try clear c19b0
                              try clear p22
                              try clear q22
                              try clear hx22
                              try clear qi22
                              try clear p23
                              try clear q23
                              try clear hx23
                              try clear c24
                              try clear c24b0
                              try clear p24
                              try clear q24
                              try clear hx24
                              try clear qi24
                              try clear c26
                              try clear c26b0
                              try clear c28
                              try clear c28b0
                              try clear c28b1
                              try clear c30
                              try clear c30b0
                              try clear c30b1
                              try clear c31
                              try clear c31b0
                              try clear c31b1
                              try clear c32
                              try clear c32b0
                              try clear c32b1
                              try clear c34
                              try clear c39
                              try clear c39b0
                              try clear c39b1
                              try clear c40
                              try clear c40b0
                              try clear c40b1
                              try clear c41
                              try clear c41b0
                              try clear c41b1
                              try clear c42
                              try clear c42b0
                              try clear c42b1
                              try clear hcz23_0
                              try clear hcz23_1
                              try clear hcz23_2
                              try clear hcz25_0
                              try clear hcz25_1
                              try clear hcz25_2
                              try clear hcz27_0
                              try clear hcz27_1
                              try clear hcz27_2
                              try clear hcz29_0
                              try clear hcz29_1
                              try clear hcz29_2
                              try clear hcz33_0
                              try clear hcz33_1
                              try clear hcz33_2
                              try clear hcz37_0
                              try clear hcz37_1
                              try clear hcz37_2
                              try clear hcz44_0
                              try clear hcz44_1
                              try clear hcz44_2
                              try clear hcz46_0
                              try clear hcz46_1
                              try clear hcz46_2
                              try clear hfz23_0
                              try clear hfz23_1
                              try clear hfz23_2
                              try clear hfz25_0
                              try clear hfz25_1
                              try clear hfz25_2
                              try clear hfz27_0
                              try clear hfz27_1
                              try clear hfz27_2
                              try clear hfz29_0
                              try clear hfz29_1
                              try clear hfz29_2
                              try clear hfz33_0
                              try clear hfz33_1
                              try clear hfz33_2
                              try clear hfz37_0
                              try clear hfz37_1
                              try clear hfz37_2
                              try clear hfz44_0
                              try clear hfz44_1
                              try clear hfz44_2
                              try clear hfz46_0
                              try clear hfz46_1
                              try clear hfz46_2
                              try clear hx222_0
                              try clear hx222_1
                              try clear hx222_2
                              try clear hx233_0
                              try clear hx233_1
                              try clear hx233_2
                              try clear hx240_0
                              try clear hx240_1
                              try clear hx240_2
                              try clear hx241_0
                              try clear hx241_1
                              try clear hx241_2
                              try clear p2
                              try clear p22
                              try clear p222
                              try clear p23
                              try clear p233
                              try clear p240
                              try clear p241
                              try clear p6
                              try clear q2
                              try clear q22
                              try clear q222
                              try clear q23
                              try clear q233
                              try clear q240
                              try clear q241
                              obtain ⟨kq, x140_35, rfl, HA, HJ35, HO_6, BK234, HB⟩ := hcut
                              cases kq with
                              | zero => exact absurd HA.out (by simp [ferrulelaw02_LexParts.j4])
                              | succ kj35 =>
                                have H := HA.out
                                clear HA
                                simp only [ferrulelaw02_LexParts.j4] at H
                                by_cases c48 : x140_35 = true
                                · subst c48
                                  have H1 : (some false) = some r := by rw [if_pos rfl] at H; exact H
                                  clear H
                                  have H := H1
                                  clear H1
                                  obtain rfl := Option.some.inj H
                                  go_wp2
                                  repeat (go_quiet (fail); try go_wp2)
                                  go_ret
                                  exact ⟨by first | rfl | (simp [errW_none, errW_some] <;> rfl) | (simp [*, errW_none, errW_some] <;> rfl), by repeat (first | (with_reducible first | exact HB.out | apply below_alloc | apply pw_below_drewN | apply below_drew1 | refine below_set ?_ GE234.out) | exact HB.out)⟩
                                · replace c48 := Bool.eq_false_iff.mpr c48
                                  subst c48
                                  have H1 : (if 0 ≤ x8_3 then (if x8_3 ≤ ((rd_T39 t223 x9_3).f2) then (if ((rd_T39 t223 x9_3).f2) ≤ (x0_1.size : Int) then ((lex_Lex.f kj35 (x0_1.extract (x8_3 : Int).toNat (((rd_T39 t223 x9_3).f2) : Int).toNat)).bind fun bt242 => (if bt242.2.2 = 0 then (if (bt242.1.length : Int) = 0 then (ferrulelaw02_LexParts.l0 kj35 x0_1 t223 (wrap64 (((rd_T39 t223 x9_3).f2) + (((rd_T39 t223 x9_3).f1).size : Int))) (wrap64 (x9_3 + 1))) else (some false)) else (some false))) else (none)) else (none)) else (none)) = some r := by rw [if_neg (show ¬ (false = true) by decide)] at H; exact H
                                  clear H
                                  have H := H1
                                  clear H1
                                  by_cases c49 : 0 ≤ x8_3
                                  · rw [if_pos c49] at H
                                    have c49b0 := eq_true c49
                                    have c49b1 : decide (0 ≤ x8_3) = true := decide_eq_true c49
                                    clear c49
                                    by_cases c50 : x8_3 ≤ ((rd_T39 t223 x9_3).f2)
                                    · rw [if_pos c50] at H
                                      have c50b0 := eq_true c50
                                      have c50b1 : decide (x8_3 ≤ ((rd_T39 t223 x9_3).f2)) = true := decide_eq_true c50
                                      clear c50
                                      by_cases c51 : ((rd_T39 t223 x9_3).f2) ≤ (x0_1.size : Int)
                                      · rw [if_pos c51] at H
                                        have c51b0 := eq_true c51
                                        have c51b1 : decide (((rd_T39 t223 x9_3).f2) ≤ (x0_1.size : Int)) = true := decide_eq_true c51
                                        clear c51
                                        replace H := Option.bind_eq_some_iff.mp H
                                        obtain ⟨⟨t242, t245, t246⟩, A520, H⟩ := H
                                        replace H : (if t246 = 0 then (if (t242.length : Int) = 0 then (ferrulelaw02_LexParts.l0 kj35 x0_1 t223 (wrap64 (((rd_T39 t223 x9_3).f2) + (((rd_T39 t223 x9_3).f1).size : Int))) (wrap64 (x9_3 + 1))) else (some false)) else (some false)) = some r := H
                                        have A52 := Aside0.mk A520
                                        clear A520
                                        by_cases c53 : t246 = 0
                                        · rw [if_pos c53] at H
                                          have c53b0 : (t246 == 0) = true := beq_iff_eq.mpr c53
                                          have c53b1 : (t246 != 0) = false := bne_eq_false_iff_eq.mpr c53
                                          clear c53
                                          by_cases c54 : (t242.length : Int) = 0
                                          · rw [if_pos c54] at H
                                            have c54b0 : ((t242.length : Int) == 0) = true := beq_iff_eq.mpr c54
                                            have c54b1 : ((t242.length : Int) != 0) = false := bne_eq_false_iff_eq.mpr c54
                                            clear c54
                                            have H' := Aside0.mk H
                                            clear H
                                            have hcz55_0 : wc.cell? ⟨gb234, 0, none⟩ = some (.int .i64 ((rd_T39 t223 x9_3).f0)) := (blk_cell BK234.out 0).trans rfl
                                            have hcz55_1 : wc.cell? ⟨gb234, 1, none⟩ = some (.string ((rd_T39 t223 x9_3).f1)) := (blk_cell BK234.out 1).trans rfl
                                            have hcz55_2 : wc.cell? ⟨gb234, 2, none⟩ = some (.int .i64 ((rd_T39 t223 x9_3).f2)) := (blk_cell BK234.out 2).trans rfl
                                            have hfz55_0 := blk_frozen BK234.out 0
                                            have hfz55_1 := blk_frozen BK234.out 1
                                            have hfz55_2 := blk_frozen BK234.out 2
                                            go_wp2_with (first | (go_at_call 8; (with_reducible refine (lex_Lex.calls kj35 (x0_1.extract (x8_3 : Int).toNat (((rd_T39 t223 x9_3).f2) : Int).toNat) t242 t245 t246 _ (Gl.below HG.out (by repeat (first | (with_reducible first | exact HB.out | apply below_alloc | apply pw_below_drewN | apply below_drew1) | exact HB.out))) A52.out).mono ?_); rintro e w56 ⟨v243, rfl, ho0, hb⟩; have n0_ := Aside0.mk (Kd.V_below (by (with_reducible repeat (first | apply Kd.V_alloc | apply Kd.V_drewN | apply Kd.V_drew)); exact HO_6.out) hb); have n1_ := Aside0.mk (Kd.V_lower (Kd.V_mono (ok' := fun k_ => k_ ≠ gb234) ho0 (fun k_ hk_ => (Kd.freshB (g := gb234) (o := .cells #[.int .i64 ((rd_T39 t223 x9_3).f0), .string ((rd_T39 t223 x9_3).f1), .int .i64 ((rd_T39 t223 x9_3).f2)] 39 (0, 0)) (by (with_reducible repeat (first | refine blk_drewN ?_ _ | refine blk_drew ?_ | refine blk_alloc ?_ _)); exact BK234.out) k_ hk_))) (below_size (by repeat (first | (with_reducible first | exact HB.out | apply below_alloc | apply pw_below_drewN | apply below_drew1 | refine below_set ?_ GE234.out) | exact HB.out)))); have n2_ := Aside0.mk (blk_below (g := gb234) (o := .cells #[.int .i64 ((rd_T39 t223 x9_3).f0), .string ((rd_T39 t223 x9_3).f1), .int .i64 ((rd_T39 t223 x9_3).f2)] 39 (0, 0)) (by (with_reducible repeat (first | refine blk_drewN ?_ _ | refine blk_drew ?_ | refine blk_alloc ?_ _)); exact BK234.out) hb); have n3_ := Aside0.mk (below_step (by repeat (first | (with_reducible first | exact HB.out | apply below_alloc | apply pw_below_drewN | apply below_drew1 | refine below_set ?_ GE234.out) | exact HB.out)) hb); clear HO_6; clear BK234; clear HB; have HO_6 := n0_; have HO244 := n1_; have BK234 := n2_; have HB := n3_; clear n0_ n1_ n2_ n3_; (try clear hb); (try clear hb2); (try clear hk); (try clear hi); (try clear ho0); obtain ⟨Ao57, co57, eo57⟩ := Kd.V_slice HO244.out; subst eo57; have hcz58_0 : w56.cell? ⟨gb234, 0, none⟩ = some (.int .i64 ((rd_T39 t223 x9_3).f0)) := (blk_cell BK234.out 0).trans rfl; have hcz58_1 : w56.cell? ⟨gb234, 1, none⟩ = some (.string ((rd_T39 t223 x9_3).f1)) := (blk_cell BK234.out 1).trans rfl; have hcz58_2 : w56.cell? ⟨gb234, 2, none⟩ = some (.int .i64 ((rd_T39 t223 x9_3).f2)) := (blk_cell BK234.out 2).trans rfl; have hfz58_0 := blk_frozen BK234.out 0; have hfz58_1 := blk_frozen BK234.out 1; have hfz58_2 := blk_frozen BK234.out 2))
                                            repeat (go_quiet (first | (go_at_call 8; (with_reducible refine (lex_Lex.calls kj35 (x0_1.extract (x8_3 : Int).toNat (((rd_T39 t223 x9_3).f2) : Int).toNat) t242 t245 t246 _ (Gl.below HG.out (by repeat (first | (with_reducible first | exact HB.out | apply below_alloc | apply pw_below_drewN | apply below_drew1) | exact HB.out))) A52.out).mono ?_); rintro e w56 ⟨v243, rfl, ho0, hb⟩; have n0_ := Aside0.mk (Kd.V_below (by (with_reducible repeat (first | apply Kd.V_alloc | apply Kd.V_drewN | apply Kd.V_drew)); exact HO_6.out) hb); have n1_ := Aside0.mk (Kd.V_lower (Kd.V_mono (ok' := fun k_ => k_ ≠ gb234) ho0 (fun k_ hk_ => (Kd.freshB (g := gb234) (o := .cells #[.int .i64 ((rd_T39 t223 x9_3).f0), .string ((rd_T39 t223 x9_3).f1), .int .i64 ((rd_T39 t223 x9_3).f2)] 39 (0, 0)) (by (with_reducible repeat (first | refine blk_drewN ?_ _ | refine blk_drew ?_ | refine blk_alloc ?_ _)); exact BK234.out) k_ hk_))) (below_size (by repeat (first | (with_reducible first | exact HB.out | apply below_alloc | apply pw_below_drewN | apply below_drew1 | refine below_set ?_ GE234.out) | exact HB.out)))); have n2_ := Aside0.mk (blk_below (g := gb234) (o := .cells #[.int .i64 ((rd_T39 t223 x9_3).f0), .string ((rd_T39 t223 x9_3).f1), .int .i64 ((rd_T39 t223 x9_3).f2)] 39 (0, 0)) (by (with_reducible repeat (first | refine blk_drewN ?_ _ | refine blk_drew ?_ | refine blk_alloc ?_ _)); exact BK234.out) hb); have n3_ := Aside0.mk (below_step (by repeat (first | (with_reducible first | exact HB.out | apply below_alloc | apply pw_below_drewN | apply below_drew1 | refine below_set ?_ GE234.out) | exact HB.out)) hb); clear HO_6; clear BK234; clear HB; have HO_6 := n0_; have HO244 := n1_; have BK234 := n2_; have HB := n3_; clear n0_ n1_ n2_ n3_; (try clear hb); (try clear hb2); (try clear hk); (try clear hi); (try clear ho0); obtain ⟨Ao57, co57, eo57⟩ := Kd.V_slice HO244.out; subst eo57; have hcz58_0 : w56.cell? ⟨gb234, 0, none⟩ = some (.int .i64 ((rd_T39 t223 x9_3).f0)) := (blk_cell BK234.out 0).trans rfl; have hcz58_1 : w56.cell? ⟨gb234, 1, none⟩ = some (.string ((rd_T39 t223 x9_3).f1)) := (blk_cell BK234.out 1).trans rfl; have hcz58_2 : w56.cell? ⟨gb234, 2, none⟩ = some (.int .i64 ((rd_T39 t223 x9_3).f2)) := (blk_cell BK234.out 2).trans rfl; have hfz58_0 := blk_frozen BK234.out 0; have hfz58_1 := blk_frozen BK234.out 1; have hfz58_2 := blk_frozen BK234.out 2)); try go_wp2_with (first | (go_at_call 8; (with_reducible refine (lex_Lex.calls kj35 (x0_1.extract (x8_3 : Int).toNat (((rd_T39 t223 x9_3).f2) : Int).toNat) t242 t245 t246 _ (Gl.below HG.out (by repeat (first | (with_reducible first | exact HB.out | apply below_alloc | apply pw_below_drewN | apply below_drew1) | exact HB.out))) A52.out).mono ?_); rintro e w56 ⟨v243, rfl, ho0, hb⟩; have n0_ := Aside0.mk (Kd.V_below (by (with_reducible repeat (first | apply Kd.V_alloc | apply Kd.V_drewN | apply Kd.V_drew)); exact HO_6.out) hb); have n1_ := Aside0.mk (Kd.V_lower (Kd.V_mono (ok' := fun k_ => k_ ≠ gb234) ho0 (fun k_ hk_ => (Kd.freshB (g := gb234) (o := .cells #[.int .i64 ((rd_T39 t223 x9_3).f0), .string ((rd_T39 t223 x9_3).f1), .int .i64 ((rd_T39 t223 x9_3).f2)] 39 (0, 0)) (by (with_reducible repeat (first | refine blk_drewN ?_ _ | refine blk_drew ?_ | refine blk_alloc ?_ _)); exact BK234.out) k_ hk_))) (below_size (by repeat (first | (with_reducible first | exact HB.out | apply below_alloc | apply pw_below_drewN | apply below_drew1 | refine below_set ?_ GE234.out) | exact HB.out)))); have n2_ := Aside0.mk (blk_below (g := gb234) (o := .cells #[.int .i64 ((rd_T39 t223 x9_3).f0), .string ((rd_T39 t223 x9_3).f1), .int .i64 ((rd_T39 t223 x9_3).f2)] 39 (0, 0)) (by (with_reducible repeat (first | refine blk_drewN ?_ _ | refine blk_drew ?_ | refine blk_alloc ?_ _)); exact BK234.out) hb); have n3_ := Aside0.mk (below_step (by repeat (first | (with_reducible first | exact HB.out | apply below_alloc | apply pw_below_drewN | apply below_drew1 | refine below_set ?_ GE234.out) | exact HB.out)) hb); clear HO_6; clear BK234; clear HB; have HO_6 := n0_; have HO244 := n1_; have BK234 := n2_; have HB := n3_; clear n0_ n1_ n2_ n3_; (try clear hb); (try clear hb2); (try clear hk); (try clear hi); (try clear ho0); obtain ⟨Ao57, co57, eo57⟩ := Kd.V_slice HO244.out; subst eo57; have hcz58_0 : w56.cell? ⟨gb234, 0, none⟩ = some (.int .i64 ((rd_T39 t223 x9_3).f0)) := (blk_cell BK234.out 0).trans rfl; have hcz58_1 : w56.cell? ⟨gb234, 1, none⟩ = some (.string ((rd_T39 t223 x9_3).f1)) := (blk_cell BK234.out 1).trans rfl; have hcz58_2 : w56.cell? ⟨gb234, 2, none⟩ = some (.int .i64 ((rd_T39 t223 x9_3).f2)) := (blk_cell BK234.out 2).trans rfl; have hfz58_0 := blk_frozen BK234.out 0; have hfz58_1 := blk_frozen BK234.out 1; have hfz58_2 := blk_frozen BK234.out 2)))
                                            go_roundg kj35
                                            case measure => have := HJ1.out; have := HJ6.out; have := HK3.out; have := HJ19.out; have := HJ35.out; omega
                                            case rel => exact ⟨(wrap64 (((rd_T39 t223 x9_3).f2) + (((rd_T39 t223 x9_3).f1).size : Int))), (wrap64 (x9_3 + 1)), (by first | rfl | (simp; done) | (simp [*]; done)), (by first | rfl | (simp; done) | (simp [*]; done)), H', ⟨by have := HJ1.out; have := HJ6.out; have := HK3.out; have := HJ19.out; have := HJ35.out; omega⟩, ⟨by (with_reducible repeat (first | apply Kd.V_alloc | apply Kd.V_drewN | apply Kd.V_drew)); exact Kd.V_mono HO_6.out (fun _ hk => trivial)⟩, ⟨by repeat (first | (with_reducible first | exact HB.out | apply below_alloc | apply pw_below_drewN | apply below_drew1 | refine below_set ?_ GE234.out) | exact HB.out)⟩⟩
                                          · rw [if_neg c54] at H
                                            have c54b0 : ((t242.length : Int) == 0) = false := beq_eq_false_iff_ne.mpr c54
                                            have c54b1 : ((t242.length : Int) != 0) = true := bne_iff_ne.mpr c54
                                            have c54b2 : ¬ (t242 = []) := fun h_ => c54 (by rw [h_]; rfl)
                                            obtain rfl := Option.some.inj H
                                            have hcz59_0 : wc.cell? ⟨gb234, 0, none⟩ = some (.int .i64 ((rd_T39 t223 x9_3).f0)) := (blk_cell BK234.out 0).trans rfl
                                            have hcz59_1 : wc.cell? ⟨gb234, 1, none⟩ = some (.string ((rd_T39 t223 x9_3).f1)) := (blk_cell BK234.out 1).trans rfl
                                            have hcz59_2 : wc.cell? ⟨gb234, 2, none⟩ = some (.int .i64 ((rd_T39 t223 x9_3).f2)) := (blk_cell BK234.out 2).trans rfl
                                            have hfz59_0 := blk_frozen BK234.out 0
                                            have hfz59_1 := blk_frozen BK234.out 1
                                            have hfz59_2 := blk_frozen BK234.out 2
                                            go_wp2_with (first | (go_at_call 8; (with_reducible refine (lex_Lex.calls kj35 (x0_1.extract (x8_3 : Int).toNat (((rd_T39 t223 x9_3).f2) : Int).toNat) t242 t245 t246 _ (Gl.below HG.out (by repeat (first | (with_reducible first | exact HB.out | apply below_alloc | apply pw_below_drewN | apply below_drew1) | exact HB.out))) A52.out).mono ?_); rintro e w60 ⟨v243, rfl, ho0, hb⟩; have n0_ := Aside0.mk (Kd.V_below (by (with_reducible repeat (first | apply Kd.V_alloc | apply Kd.V_drewN | apply Kd.V_drew)); exact HO_6.out) hb); have n1_ := Aside0.mk (Kd.V_lower (Kd.V_mono (ok' := fun k_ => k_ ≠ gb234) ho0 (fun k_ hk_ => (Kd.freshB (g := gb234) (o := .cells #[.int .i64 ((rd_T39 t223 x9_3).f0), .string ((rd_T39 t223 x9_3).f1), .int .i64 ((rd_T39 t223 x9_3).f2)] 39 (0, 0)) (by (with_reducible repeat (first | refine blk_drewN ?_ _ | refine blk_drew ?_ | refine blk_alloc ?_ _)); exact BK234.out) k_ hk_))) (below_size (by repeat (first | (with_reducible first | exact HB.out | apply below_alloc | apply pw_below_drewN | apply below_drew1 | refine below_set ?_ GE234.out) | exact HB.out)))); have n2_ := Aside0.mk (blk_below (g := gb234) (o := .cells #[.int .i64 ((rd_T39 t223 x9_3).f0), .string ((rd_T39 t223 x9_3).f1), .int .i64 ((rd_T39 t223 x9_3).f2)] 39 (0, 0)) (by (with_reducible repeat (first | refine blk_drewN ?_ _ | refine blk_drew ?_ | refine blk_alloc ?_ _)); exact BK234.out) hb); have n3_ := Aside0.mk (below_step (by repeat (first | (with_reducible first | exact HB.out | apply below_alloc | apply pw_below_drewN | apply below_drew1 | refine below_set ?_ GE234.out) | exact HB.out)) hb); clear HO_6; clear BK234; clear HB; have HO_6 := n0_; have HO244 := n1_; have BK234 := n2_; have HB := n3_; clear n0_ n1_ n2_ n3_; (try clear hb); (try clear hb2); (try clear hk); (try clear hi); (try clear ho0); obtain ⟨Ao61, co61, eo61⟩ := Kd.V_slice HO244.out; subst eo61))
                                            repeat (go_quiet (first | (go_at_call 8; (with_reducible refine (lex_Lex.calls kj35 (x0_1.extract (x8_3 : Int).toNat (((rd_T39 t223 x9_3).f2) : Int).toNat) t242 t245 t246 _ (Gl.below HG.out (by repeat (first | (with_reducible first | exact HB.out | apply below_alloc | apply pw_below_drewN | apply below_drew1) | exact HB.out))) A52.out).mono ?_); rintro e w60 ⟨v243, rfl, ho0, hb⟩; have n0_ := Aside0.mk (Kd.V_below (by (with_reducible repeat (first | apply Kd.V_alloc | apply Kd.V_drewN | apply Kd.V_drew)); exact HO_6.out) hb); have n1_ := Aside0.mk (Kd.V_lower (Kd.V_mono (ok' := fun k_ => k_ ≠ gb234) ho0 (fun k_ hk_ => (Kd.freshB (g := gb234) (o := .cells #[.int .i64 ((rd_T39 t223 x9_3).f0), .string ((rd_T39 t223 x9_3).f1), .int .i64 ((rd_T39 t223 x9_3).f2)] 39 (0, 0)) (by (with_reducible repeat (first | refine blk_drewN ?_ _ | refine blk_drew ?_ | refine blk_alloc ?_ _)); exact BK234.out) k_ hk_))) (below_size (by repeat (first | (with_reducible first | exact HB.out | apply below_alloc | apply pw_below_drewN | apply below_drew1 | refine below_set ?_ GE234.out) | exact HB.out)))); have n2_ := Aside0.mk (blk_below (g := gb234) (o := .cells #[.int .i64 ((rd_T39 t223 x9_3).f0), .string ((rd_T39 t223 x9_3).f1), .int .i64 ((rd_T39 t223 x9_3).f2)] 39 (0, 0)) (by (with_reducible repeat (first | refine blk_drewN ?_ _ | refine blk_drew ?_ | refine blk_alloc ?_ _)); exact BK234.out) hb); have n3_ := Aside0.mk (below_step (by repeat (first | (with_reducible first | exact HB.out | apply below_alloc | apply pw_below_drewN | apply below_drew1 | refine below_set ?_ GE234.out) | exact HB.out)) hb); clear HO_6; clear BK234; clear HB; have HO_6 := n0_; have HO244 := n1_; have BK234 := n2_; have HB := n3_; clear n0_ n1_ n2_ n3_; (try clear hb); (try clear hb2); (try clear hk); (try clear hi); (try clear ho0); obtain ⟨Ao61, co61, eo61⟩ := Kd.V_slice HO244.out; subst eo61)); try go_wp2_with (first | (go_at_call 8; (with_reducible refine (lex_Lex.calls kj35 (x0_1.extract (x8_3 : Int).toNat (((rd_T39 t223 x9_3).f2) : Int).toNat) t242 t245 t246 _ (Gl.below HG.out (by repeat (first | (with_reducible first | exact HB.out | apply below_alloc | apply pw_below_drewN | apply below_drew1) | exact HB.out))) A52.out).mono ?_); rintro e w60 ⟨v243, rfl, ho0, hb⟩; have n0_ := Aside0.mk (Kd.V_below (by (with_reducible repeat (first | apply Kd.V_alloc | apply Kd.V_drewN | apply Kd.V_drew)); exact HO_6.out) hb); have n1_ := Aside0.mk (Kd.V_lower (Kd.V_mono (ok' := fun k_ => k_ ≠ gb234) ho0 (fun k_ hk_ => (Kd.freshB (g := gb234) (o := .cells #[.int .i64 ((rd_T39 t223 x9_3).f0), .string ((rd_T39 t223 x9_3).f1), .int .i64 ((rd_T39 t223 x9_3).f2)] 39 (0, 0)) (by (with_reducible repeat (first | refine blk_drewN ?_ _ | refine blk_drew ?_ | refine blk_alloc ?_ _)); exact BK234.out) k_ hk_))) (below_size (by repeat (first | (with_reducible first | exact HB.out | apply below_alloc | apply pw_below_drewN | apply below_drew1 | refine below_set ?_ GE234.out) | exact HB.out)))); have n2_ := Aside0.mk (blk_below (g := gb234) (o := .cells #[.int .i64 ((rd_T39 t223 x9_3).f0), .string ((rd_T39 t223 x9_3).f1), .int .i64 ((rd_T39 t223 x9_3).f2)] 39 (0, 0)) (by (with_reducible repeat (first | refine blk_drewN ?_ _ | refine blk_drew ?_ | refine blk_alloc ?_ _)); exact BK234.out) hb); have n3_ := Aside0.mk (below_step (by repeat (first | (with_reducible first | exact HB.out | apply below_alloc | apply pw_below_drewN | apply below_drew1 | refine below_set ?_ GE234.out) | exact HB.out)) hb); clear HO_6; clear BK234; clear HB; have HO_6 := n0_; have HO244 := n1_; have BK234 := n2_; have HB := n3_; clear n0_ n1_ n2_ n3_; (try clear hb); (try clear hb2); (try clear hk); (try clear hi); (try clear ho0); obtain ⟨Ao61, co61, eo61⟩ := Kd.V_slice HO244.out; subst eo61)))
                                            go_ret
                                            exact ⟨by first | rfl | (simp [errW_none, errW_some] <;> rfl) | (simp [*, errW_none, errW_some] <;> rfl), by repeat (first | (with_reducible first | exact HB.out | apply below_alloc | apply pw_below_drewN | apply below_drew1 | refine below_set ?_ GE234.out) | exact HB.out)⟩
                                        · rw [if_neg c53] at H
                                          have c53b0 : (t246 == 0) = false := beq_eq_false_iff_ne.mpr c53
                                          have c53b1 : (t246 != 0) = true := bne_iff_ne.mpr c53
                                          obtain rfl := Option.some.inj H
                                          have hcz62_0 : wc.cell? ⟨gb234, 0, none⟩ = some (.int .i64 ((rd_T39 t223 x9_3).f0)) := (blk_cell BK234.out 0).trans rfl
                                          have hcz62_1 : wc.cell? ⟨gb234, 1, none⟩ = some (.string ((rd_T39 t223 x9_3).f1)) := (blk_cell BK234.out 1).trans rfl
                                          have hcz62_2 : wc.cell? ⟨gb234, 2, none⟩ = some (.int .i64 ((rd_T39 t223 x9_3).f2)) := (blk_cell BK234.out 2).trans rfl
                                          have hfz62_0 := blk_frozen BK234.out 0
                                          have hfz62_1 := blk_frozen BK234.out 1
                                          have hfz62_2 := blk_frozen BK234.out 2
                                          go_wp2_with (first | (go_at_call 8; (with_reducible refine (lex_Lex.calls kj35 (x0_1.extract (x8_3 : Int).toNat (((rd_T39 t223 x9_3).f2) : Int).toNat) t242 t245 t246 _ (Gl.below HG.out (by repeat (first | (with_reducible first | exact HB.out | apply below_alloc | apply pw_below_drewN | apply below_drew1) | exact HB.out))) A52.out).mono ?_); rintro e w63 ⟨v243, rfl, ho0, hb⟩; have n0_ := Aside0.mk (Kd.V_below (by (with_reducible repeat (first | apply Kd.V_alloc | apply Kd.V_drewN | apply Kd.V_drew)); exact HO_6.out) hb); have n1_ := Aside0.mk (Kd.V_lower (Kd.V_mono (ok' := fun k_ => k_ ≠ gb234) ho0 (fun k_ hk_ => (Kd.freshB (g := gb234) (o := .cells #[.int .i64 ((rd_T39 t223 x9_3).f0), .string ((rd_T39 t223 x9_3).f1), .int .i64 ((rd_T39 t223 x9_3).f2)] 39 (0, 0)) (by (with_reducible repeat (first | refine blk_drewN ?_ _ | refine blk_drew ?_ | refine blk_alloc ?_ _)); exact BK234.out) k_ hk_))) (below_size (by repeat (first | (with_reducible first | exact HB.out | apply below_alloc | apply pw_below_drewN | apply below_drew1 | refine below_set ?_ GE234.out) | exact HB.out)))); have n2_ := Aside0.mk (blk_below (g := gb234) (o := .cells #[.int .i64 ((rd_T39 t223 x9_3).f0), .string ((rd_T39 t223 x9_3).f1), .int .i64 ((rd_T39 t223 x9_3).f2)] 39 (0, 0)) (by (with_reducible repeat (first | refine blk_drewN ?_ _ | refine blk_drew ?_ | refine blk_alloc ?_ _)); exact BK234.out) hb); have n3_ := Aside0.mk (below_step (by repeat (first | (with_reducible first | exact HB.out | apply below_alloc | apply pw_below_drewN | apply below_drew1 | refine below_set ?_ GE234.out) | exact HB.out)) hb); clear HO_6; clear BK234; clear HB; have HO_6 := n0_; have HO244 := n1_; have BK234 := n2_; have HB := n3_; clear n0_ n1_ n2_ n3_; (try clear hb); (try clear hb2); (try clear hk); (try clear hi); (try clear ho0)))
                                          repeat (go_quiet (first | (go_at_call 8; (with_reducible refine (lex_Lex.calls kj35 (x0_1.extract (x8_3 : Int).toNat (((rd_T39 t223 x9_3).f2) : Int).toNat) t242 t245 t246 _ (Gl.below HG.out (by repeat (first | (with_reducible first | exact HB.out | apply below_alloc | apply pw_below_drewN | apply below_drew1) | exact HB.out))) A52.out).mono ?_); rintro e w63 ⟨v243, rfl, ho0, hb⟩; have n0_ := Aside0.mk (Kd.V_below (by (with_reducible repeat (first | apply Kd.V_alloc | apply Kd.V_drewN | apply Kd.V_drew)); exact HO_6.out) hb); have n1_ := Aside0.mk (Kd.V_lower (Kd.V_mono (ok' := fun k_ => k_ ≠ gb234) ho0 (fun k_ hk_ => (Kd.freshB (g := gb234) (o := .cells #[.int .i64 ((rd_T39 t223 x9_3).f0), .string ((rd_T39 t223 x9_3).f1), .int .i64 ((rd_T39 t223 x9_3).f2)] 39 (0, 0)) (by (with_reducible repeat (first | refine blk_drewN ?_ _ | refine blk_drew ?_ | refine blk_alloc ?_ _)); exact BK234.out) k_ hk_))) (below_size (by repeat (first | (with_reducible first | exact HB.out | apply below_alloc | apply pw_below_drewN | apply below_drew1 | refine below_set ?_ GE234.out) | exact HB.out)))); have n2_ := Aside0.mk (blk_below (g := gb234) (o := .cells #[.int .i64 ((rd_T39 t223 x9_3).f0), .string ((rd_T39 t223 x9_3).f1), .int .i64 ((rd_T39 t223 x9_3).f2)] 39 (0, 0)) (by (with_reducible repeat (first | refine blk_drewN ?_ _ | refine blk_drew ?_ | refine blk_alloc ?_ _)); exact BK234.out) hb); have n3_ := Aside0.mk (below_step (by repeat (first | (with_reducible first | exact HB.out | apply below_alloc | apply pw_below_drewN | apply below_drew1 | refine below_set ?_ GE234.out) | exact HB.out)) hb); clear HO_6; clear BK234; clear HB; have HO_6 := n0_; have HO244 := n1_; have BK234 := n2_; have HB := n3_; clear n0_ n1_ n2_ n3_; (try clear hb); (try clear hb2); (try clear hk); (try clear hi); (try clear ho0))); try go_wp2_with (first | (go_at_call 8; (with_reducible refine (lex_Lex.calls kj35 (x0_1.extract (x8_3 : Int).toNat (((rd_T39 t223 x9_3).f2) : Int).toNat) t242 t245 t246 _ (Gl.below HG.out (by repeat (first | (with_reducible first | exact HB.out | apply below_alloc | apply pw_below_drewN | apply below_drew1) | exact HB.out))) A52.out).mono ?_); rintro e w63 ⟨v243, rfl, ho0, hb⟩; have n0_ := Aside0.mk (Kd.V_below (by (with_reducible repeat (first | apply Kd.V_alloc | apply Kd.V_drewN | apply Kd.V_drew)); exact HO_6.out) hb); have n1_ := Aside0.mk (Kd.V_lower (Kd.V_mono (ok' := fun k_ => k_ ≠ gb234) ho0 (fun k_ hk_ => (Kd.freshB (g := gb234) (o := .cells #[.int .i64 ((rd_T39 t223 x9_3).f0), .string ((rd_T39 t223 x9_3).f1), .int .i64 ((rd_T39 t223 x9_3).f2)] 39 (0, 0)) (by (with_reducible repeat (first | refine blk_drewN ?_ _ | refine blk_drew ?_ | refine blk_alloc ?_ _)); exact BK234.out) k_ hk_))) (below_size (by repeat (first | (with_reducible first | exact HB.out | apply below_alloc | apply pw_below_drewN | apply below_drew1 | refine below_set ?_ GE234.out) | exact HB.out)))); have n2_ := Aside0.mk (blk_below (g := gb234) (o := .cells #[.int .i64 ((rd_T39 t223 x9_3).f0), .string ((rd_T39 t223 x9_3).f1), .int .i64 ((rd_T39 t223 x9_3).f2)] 39 (0, 0)) (by (with_reducible repeat (first | refine blk_drewN ?_ _ | refine blk_drew ?_ | refine blk_alloc ?_ _)); exact BK234.out) hb); have n3_ := Aside0.mk (below_step (by repeat (first | (with_reducible first | exact HB.out | apply below_alloc | apply pw_below_drewN | apply below_drew1 | refine below_set ?_ GE234.out) | exact HB.out)) hb); clear HO_6; clear BK234; clear HB; have HO_6 := n0_; have HO244 := n1_; have BK234 := n2_; have HB := n3_; clear n0_ n1_ n2_ n3_; (try clear hb); (try clear hb2); (try clear hk); (try clear hi); (try clear ho0))))
                                          go_ret
                                          exact ⟨by first | rfl | (simp [errW_none, errW_some] <;> rfl) | (simp [*, errW_none, errW_some] <;> rfl), by repeat (first | (with_reducible first | exact HB.out | apply below_alloc | apply pw_below_drewN | apply below_drew1 | refine below_set ?_ GE234.out) | exact HB.out)⟩
                                      · rw [if_neg c51] at H
                                        exact absurd H (by simp)
                                    · rw [if_neg c50] at H
                                      exact absurd H (by simp)
                                  · rw [if_neg c49] at H
                                    exact absurd H (by simp)
                    · rw [if_neg c19] at H
                      exact absurd H (by simp)
                  · rw [if_neg c18] at H
                    have c18b0 : decide (x9_3 < (t223.length : Int)) = false := decide_eq_false c18
                    clear c18
                    by_cases c64 : 0 ≤ x8_3
                    · rw [if_pos c64] at H
                      have c64b0 := eq_true c64
                      have c64b1 : decide (0 ≤ x8_3) = true := decide_eq_true c64
                      clear c64
                      by_cases c65 : x8_3 ≤ (x0_1.size : Int)
                      · rw [if_pos c65] at H
                        have c65b0 := eq_true c65
                        have c65b1 : decide (x8_3 ≤ (x0_1.size : Int)) = true := decide_eq_true c65
                        clear c65
                        replace H := Option.bind_eq_some_iff.mp H
                        obtain ⟨⟨t228, t231, t232⟩, A660, H⟩ := H
                        replace H : (if t232 = 0 then (some ((t228.length : Int) == 0)) else (some false)) = some r := H
                        have A66 := Aside0.mk A660
                        clear A660
                        by_cases c67 : t232 = 0
                        · rw [if_pos c67] at H
                          have c67b0 : (t232 == 0) = true := beq_iff_eq.mpr c67
                          have c67b1 : (t232 != 0) = false := bne_eq_false_iff_eq.mpr c67
                          clear c67
                          obtain rfl := Option.some.inj H
                          obtain ⟨Ao68, co68, eo68⟩ := Kd.V_slice HO_6.out
                          subst eo68
                          go_wp2_with (first | (go_at_call 8; (with_reducible refine (lex_Lex.calls k3 (x0_1.extract (x8_3 : Int).toNat x0_1.size) t228 t231 t232 _ (Gl.below HG.out (by repeat (first | (with_reducible first | exact HB.out | apply below_alloc | apply pw_below_drewN | apply below_drew1) | exact HB.out))) A66.out).mono ?_); rintro e w69 ⟨v229, rfl, ho0, hb⟩; have n0_ := Aside0.mk (Kd.V_below (by (with_reducible repeat (first | apply Kd.V_alloc | apply Kd.V_drewN | apply Kd.V_drew)); exact HO_6.out) hb); have n1_ := Aside0.mk (Kd.V_lower (Kd.V_mono (ok' := fun k_ => True) ho0 (fun k_ hk_ => trivial)) (below_size (by repeat (first | (with_reducible first | exact HB.out | apply below_alloc | apply pw_below_drewN | apply below_drew1) | exact HB.out)))); have n2_ := Aside0.mk (below_step (by repeat (first | (with_reducible first | exact HB.out | apply below_alloc | apply pw_below_drewN | apply below_drew1) | exact HB.out)) hb); clear HO_6; clear HB; have HO_6 := n0_; have HO230 := n1_; have HB := n2_; clear n0_ n1_ n2_; (try clear hb); (try clear hb2); (try clear hk); (try clear hi); (try clear ho0); obtain ⟨Ao70, co70, eo70⟩ := Kd.V_slice HO230.out; subst eo70))
                          repeat (go_quiet (first | (go_at_call 8; (with_reducible refine (lex_Lex.calls k3 (x0_1.extract (x8_3 : Int).toNat x0_1.size) t228 t231 t232 _ (Gl.below HG.out (by repeat (first | (with_reducible first | exact HB.out | apply below_alloc | apply pw_below_drewN | apply below_drew1) | exact HB.out))) A66.out).mono ?_); rintro e w69 ⟨v229, rfl, ho0, hb⟩; have n0_ := Aside0.mk (Kd.V_below (by (with_reducible repeat (first | apply Kd.V_alloc | apply Kd.V_drewN | apply Kd.V_drew)); exact HO_6.out) hb); have n1_ := Aside0.mk (Kd.V_lower (Kd.V_mono (ok' := fun k_ => True) ho0 (fun k_ hk_ => trivial)) (below_size (by repeat (first | (with_reducible first | exact HB.out | apply below_alloc | apply pw_below_drewN | apply below_drew1) | exact HB.out)))); have n2_ := Aside0.mk (below_step (by repeat (first | (with_reducible first | exact HB.out | apply below_alloc | apply pw_below_drewN | apply below_drew1) | exact HB.out)) hb); clear HO_6; clear HB; have HO_6 := n0_; have HO230 := n1_; have HB := n2_; clear n0_ n1_ n2_; (try clear hb); (try clear hb2); (try clear hk); (try clear hi); (try clear ho0); obtain ⟨Ao70, co70, eo70⟩ := Kd.V_slice HO230.out; subst eo70)); try go_wp2_with (first | (go_at_call 8; (with_reducible refine (lex_Lex.calls k3 (x0_1.extract (x8_3 : Int).toNat x0_1.size) t228 t231 t232 _ (Gl.below HG.out (by repeat (first | (with_reducible first | exact HB.out | apply below_alloc | apply pw_below_drewN | apply below_drew1) | exact HB.out))) A66.out).mono ?_); rintro e w69 ⟨v229, rfl, ho0, hb⟩; have n0_ := Aside0.mk (Kd.V_below (by (with_reducible repeat (first | apply Kd.V_alloc | apply Kd.V_drewN | apply Kd.V_drew)); exact HO_6.out) hb); have n1_ := Aside0.mk (Kd.V_lower (Kd.V_mono (ok' := fun k_ => True) ho0 (fun k_ hk_ => trivial)) (below_size (by repeat (first | (with_reducible first | exact HB.out | apply below_alloc | apply pw_below_drewN | apply below_drew1) | exact HB.out)))); have n2_ := Aside0.mk (below_step (by repeat (first | (with_reducible first | exact HB.out | apply below_alloc | apply pw_below_drewN | apply below_drew1) | exact HB.out)) hb); clear HO_6; clear HB; have HO_6 := n0_; have HO230 := n1_; have HB := n2_; clear n0_ n1_ n2_; (try clear hb); (try clear hb2); (try clear hk); (try clear hi); (try clear ho0); obtain ⟨Ao70, co70, eo70⟩ := Kd.V_slice HO230.out; subst eo70)))
                          go_ret
                          exact ⟨by first | rfl | (simp [errW_none, errW_some] <;> rfl) | (simp [*, errW_none, errW_some] <;> rfl), by repeat (first | (with_reducible first | exact HB.out | apply below_alloc | apply pw_below_drewN | apply below_drew1) | exact HB.out)⟩
                        · rw [if_neg c67] at H
                          have c67b0 : (t232 == 0) = false := beq_eq_false_iff_ne.mpr c67
                          have c67b1 : (t232 != 0) = true := bne_iff_ne.mpr c67
                          obtain rfl := Option.some.inj H
                          obtain ⟨Ao71, co71, eo71⟩ := Kd.V_slice HO_6.out
                          subst eo71
                          go_wp2_with (first | (go_at_call 8; (with_reducible refine (lex_Lex.calls k3 (x0_1.extract (x8_3 : Int).toNat x0_1.size) t228 t231 t232 _ (Gl.below HG.out (by repeat (first | (with_reducible first | exact HB.out | apply below_alloc | apply pw_below_drewN | apply below_drew1) | exact HB.out))) A66.out).mono ?_); rintro e w72 ⟨v229, rfl, ho0, hb⟩; have n0_ := Aside0.mk (Kd.V_below (by (with_reducible repeat (first | apply Kd.V_alloc | apply Kd.V_drewN | apply Kd.V_drew)); exact HO_6.out) hb); have n1_ := Aside0.mk (Kd.V_lower (Kd.V_mono (ok' := fun k_ => True) ho0 (fun k_ hk_ => trivial)) (below_size (by repeat (first | (with_reducible first | exact HB.out | apply below_alloc | apply pw_below_drewN | apply below_drew1) | exact HB.out)))); have n2_ := Aside0.mk (below_step (by repeat (first | (with_reducible first | exact HB.out | apply below_alloc | apply pw_below_drewN | apply below_drew1) | exact HB.out)) hb); clear HO_6; clear HB; have HO_6 := n0_; have HO230 := n1_; have HB := n2_; clear n0_ n1_ n2_; (try clear hb); (try clear hb2); (try clear hk); (try clear hi); (try clear ho0)))
                          repeat (go_quiet (first | (go_at_call 8; (with_reducible refine (lex_Lex.calls k3 (x0_1.extract (x8_3 : Int).toNat x0_1.size) t228 t231 t232 _ (Gl.below HG.out (by repeat (first | (with_reducible first | exact HB.out | apply below_alloc | apply pw_below_drewN | apply below_drew1) | exact HB.out))) A66.out).mono ?_); rintro e w72 ⟨v229, rfl, ho0, hb⟩; have n0_ := Aside0.mk (Kd.V_below (by (with_reducible repeat (first | apply Kd.V_alloc | apply Kd.V_drewN | apply Kd.V_drew)); exact HO_6.out) hb); have n1_ := Aside0.mk (Kd.V_lower (Kd.V_mono (ok' := fun k_ => True) ho0 (fun k_ hk_ => trivial)) (below_size (by repeat (first | (with_reducible first | exact HB.out | apply below_alloc | apply pw_below_drewN | apply below_drew1) | exact HB.out)))); have n2_ := Aside0.mk (below_step (by repeat (first | (with_reducible first | exact HB.out | apply below_alloc | apply pw_below_drewN | apply below_drew1) | exact HB.out)) hb); clear HO_6; clear HB; have HO_6 := n0_; have HO230 := n1_; have HB := n2_; clear n0_ n1_ n2_; (try clear hb); (try clear hb2); (try clear hk); (try clear hi); (try clear ho0))); try go_wp2_with (first | (go_at_call 8; (with_reducible refine (lex_Lex.calls k3 (x0_1.extract (x8_3 : Int).toNat x0_1.size) t228 t231 t232 _ (Gl.below HG.out (by repeat (first | (with_reducible first | exact HB.out | apply below_alloc | apply pw_below_drewN | apply below_drew1) | exact HB.out))) A66.out).mono ?_); rintro e w72 ⟨v229, rfl, ho0, hb⟩; have n0_ := Aside0.mk (Kd.V_below (by (with_reducible repeat (first | apply Kd.V_alloc | apply Kd.V_drewN | apply Kd.V_drew)); exact HO_6.out) hb); have n1_ := Aside0.mk (Kd.V_lower (Kd.V_mono (ok' := fun k_ => True) ho0 (fun k_ hk_ => trivial)) (below_size (by repeat (first | (with_reducible first | exact HB.out | apply below_alloc | apply pw_below_drewN | apply below_drew1) | exact HB.out)))); have n2_ := Aside0.mk (below_step (by repeat (first | (with_reducible first | exact HB.out | apply below_alloc | apply pw_below_drewN | apply below_drew1) | exact HB.out)) hb); clear HO_6; clear HB; have HO_6 := n0_; have HO230 := n1_; have HB := n2_; clear n0_ n1_ n2_; (try clear hb); (try clear hb2); (try clear hk); (try clear hi); (try clear ho0))))
                          go_ret
                          exact ⟨by first | rfl | (simp [errW_none, errW_some] <;> rfl) | (simp [*, errW_none, errW_some] <;> rfl), by repeat (first | (with_reducible first | exact HB.out | apply below_alloc | apply pw_below_drewN | apply below_drew1) | exact HB.out)⟩
                      · rw [if_neg c65] at H
                        exact absurd H (by simp)
                    · rw [if_neg c64] at H
                      exact absurd H (by simp)
            · rw [if_neg c16] at H
              have c16b0 : (t227 == 0) = false := beq_eq_false_iff_ne.mpr c16
              have c16b1 : (t227 != 0) = true := bne_iff_ne.mpr c16
              by_cases c73 : (t223.length : Int) = 0
              · rw [if_pos c73] at H
                have c73b0 : ((t223.length : Int) == 0) = true := beq_iff_eq.mpr c73
                have c73b1 : ((t223.length : Int) != 0) = false := bne_eq_false_iff_eq.mpr c73
                clear c73
                by_cases c74 : t226 ≥ 0
                · rw [if_pos c74] at H
                  have c74b0 : decide (0 ≤ t226) = true := decide_eq_true c74
                  clear c74
                  obtain rfl := Option.some.inj H
                  go_wp2_with (first | (go_at_call 8; (with_reducible refine (lex_Lex.calls kj6 x0_1 t223 t226 t227 _ (Gl.below HG.out (by repeat (first | (with_reducible first | exact HB.out | apply below_alloc | apply pw_below_drewN | apply below_drew1) | exact HB.out))) A15.out).mono ?_); rintro e w75 ⟨v224, rfl, ho0, hb⟩; have n0_ := Aside0.mk (Kd.V_lower (Kd.V_mono (ok' := fun k_ => True) ho0 (fun k_ hk_ => trivial)) (below_size (by repeat (first | (with_reducible first | exact HB.out | apply below_alloc | apply pw_below_drewN | apply below_drew1) | exact HB.out)))); have n1_ := Aside0.mk (below_step (by repeat (first | (with_reducible first | exact HB.out | apply below_alloc | apply pw_below_drewN | apply below_drew1) | exact HB.out)) hb); clear HB; have HO225 := n0_; have HB := n1_; clear n0_ n1_; (try clear hb); (try clear hb2); (try clear hk); (try clear hi); (try clear ho0); obtain ⟨Ao76, co76, eo76⟩ := Kd.V_slice HO225.out; subst eo76))
                  repeat (go_quiet (first | (go_at_call 8; (with_reducible refine (lex_Lex.calls kj6 x0_1 t223 t226 t227 _ (Gl.below HG.out (by repeat (first | (with_reducible first | exact HB.out | apply below_alloc | apply pw_below_drewN | apply below_drew1) | exact HB.out))) A15.out).mono ?_); rintro e w75 ⟨v224, rfl, ho0, hb⟩; have n0_ := Aside0.mk (Kd.V_lower (Kd.V_mono (ok' := fun k_ => True) ho0 (fun k_ hk_ => trivial)) (below_size (by repeat (first | (with_reducible first | exact HB.out | apply below_alloc | apply pw_below_drewN | apply below_drew1) | exact HB.out)))); have n1_ := Aside0.mk (below_step (by repeat (first | (with_reducible first | exact HB.out | apply below_alloc | apply pw_below_drewN | apply below_drew1) | exact HB.out)) hb); clear HB; have HO225 := n0_; have HB := n1_; clear n0_ n1_; (try clear hb); (try clear hb2); (try clear hk); (try clear hi); (try clear ho0); obtain ⟨Ao76, co76, eo76⟩ := Kd.V_slice HO225.out; subst eo76)); try go_wp2_with (first | (go_at_call 8; (with_reducible refine (lex_Lex.calls kj6 x0_1 t223 t226 t227 _ (Gl.below HG.out (by repeat (first | (with_reducible first | exact HB.out | apply below_alloc | apply pw_below_drewN | apply below_drew1) | exact HB.out))) A15.out).mono ?_); rintro e w75 ⟨v224, rfl, ho0, hb⟩; have n0_ := Aside0.mk (Kd.V_lower (Kd.V_mono (ok' := fun k_ => True) ho0 (fun k_ hk_ => trivial)) (below_size (by repeat (first | (with_reducible first | exact HB.out | apply below_alloc | apply pw_below_drewN | apply below_drew1) | exact HB.out)))); have n1_ := Aside0.mk (below_step (by repeat (first | (with_reducible first | exact HB.out | apply below_alloc | apply pw_below_drewN | apply below_drew1) | exact HB.out)) hb); clear HB; have HO225 := n0_; have HB := n1_; clear n0_ n1_; (try clear hb); (try clear hb2); (try clear hk); (try clear hi); (try clear ho0); obtain ⟨Ao76, co76, eo76⟩ := Kd.V_slice HO225.out; subst eo76)))
                  go_ret
                  exact ⟨by first | rfl | (simp [errW_none, errW_some] <;> rfl) | (simp [*, errW_none, errW_some] <;> rfl), by repeat (first | (with_reducible first | exact HB.out | apply below_alloc | apply pw_below_drewN | apply below_drew1) | exact HB.out)⟩
                · rw [if_neg c74] at H
                  have c74b0 : decide (0 ≤ t226) = false := decide_eq_false c74
                  clear c74
                  obtain rfl := Option.some.inj H
                  go_wp2_with (first | (go_at_call 8; (with_reducible refine (lex_Lex.calls kj6 x0_1 t223 t226 t227 _ (Gl.below HG.out (by repeat (first | (with_reducible first | exact HB.out | apply below_alloc | apply pw_below_drewN | apply below_drew1) | exact HB.out))) A15.out).mono ?_); rintro e w77 ⟨v224, rfl, ho0, hb⟩; have n0_ := Aside0.mk (Kd.V_lower (Kd.V_mono (ok' := fun k_ => True) ho0 (fun k_ hk_ => trivial)) (below_size (by repeat (first | (with_reducible first | exact HB.out | apply below_alloc | apply pw_below_drewN | apply below_drew1) | exact HB.out)))); have n1_ := Aside0.mk (below_step (by repeat (first | (with_reducible first | exact HB.out | apply below_alloc | apply pw_below_drewN | apply below_drew1) | exact HB.out)) hb); clear HB; have HO225 := n0_; have HB := n1_; clear n0_ n1_; (try clear hb); (try clear hb2); (try clear hk); (try clear hi); (try clear ho0); obtain ⟨Ao78, co78, eo78⟩ := Kd.V_slice HO225.out; subst eo78))
                  repeat (go_quiet (first | (go_at_call 8; (with_reducible refine (lex_Lex.calls kj6 x0_1 t223 t226 t227 _ (Gl.below HG.out (by repeat (first | (with_reducible first | exact HB.out | apply below_alloc | apply pw_below_drewN | apply below_drew1) | exact HB.out))) A15.out).mono ?_); rintro e w77 ⟨v224, rfl, ho0, hb⟩; have n0_ := Aside0.mk (Kd.V_lower (Kd.V_mono (ok' := fun k_ => True) ho0 (fun k_ hk_ => trivial)) (below_size (by repeat (first | (with_reducible first | exact HB.out | apply below_alloc | apply pw_below_drewN | apply below_drew1) | exact HB.out)))); have n1_ := Aside0.mk (below_step (by repeat (first | (with_reducible first | exact HB.out | apply below_alloc | apply pw_below_drewN | apply below_drew1) | exact HB.out)) hb); clear HB; have HO225 := n0_; have HB := n1_; clear n0_ n1_; (try clear hb); (try clear hb2); (try clear hk); (try clear hi); (try clear ho0); obtain ⟨Ao78, co78, eo78⟩ := Kd.V_slice HO225.out; subst eo78)); try go_wp2_with (first | (go_at_call 8; (with_reducible refine (lex_Lex.calls kj6 x0_1 t223 t226 t227 _ (Gl.below HG.out (by repeat (first | (with_reducible first | exact HB.out | apply below_alloc | apply pw_below_drewN | apply below_drew1) | exact HB.out))) A15.out).mono ?_); rintro e w77 ⟨v224, rfl, ho0, hb⟩; have n0_ := Aside0.mk (Kd.V_lower (Kd.V_mono (ok' := fun k_ => True) ho0 (fun k_ hk_ => trivial)) (below_size (by repeat (first | (with_reducible first | exact HB.out | apply below_alloc | apply pw_below_drewN | apply below_drew1) | exact HB.out)))); have n1_ := Aside0.mk (below_step (by repeat (first | (with_reducible first | exact HB.out | apply below_alloc | apply pw_below_drewN | apply below_drew1) | exact HB.out)) hb); clear HB; have HO225 := n0_; have HB := n1_; clear n0_ n1_; (try clear hb); (try clear hb2); (try clear hk); (try clear hi); (try clear ho0); obtain ⟨Ao78, co78, eo78⟩ := Kd.V_slice HO225.out; subst eo78)))
                  go_ret
                  exact ⟨by first | rfl | (simp [errW_none, errW_some] <;> rfl) | (simp [*, errW_none, errW_some] <;> rfl), by repeat (first | (with_reducible first | exact HB.out | apply below_alloc | apply pw_below_drewN | apply below_drew1) | exact HB.out)⟩
              · rw [if_neg c73] at H
                have c73b0 : ((t223.length : Int) == 0) = false := beq_eq_false_iff_ne.mpr c73
                have c73b1 : ((t223.length : Int) != 0) = true := bne_iff_ne.mpr c73
                have c73b2 : ¬ (t223 = []) := fun h_ => c73 (by rw [h_]; rfl)
                obtain rfl := Option.some.inj H
                go_wp2_with (first | (go_at_call 8; (with_reducible refine (lex_Lex.calls kj6 x0_1 t223 t226 t227 _ (Gl.below HG.out (by repeat (first | (with_reducible first | exact HB.out | apply below_alloc | apply pw_below_drewN | apply below_drew1) | exact HB.out))) A15.out).mono ?_); rintro e w79 ⟨v224, rfl, ho0, hb⟩; have n0_ := Aside0.mk (Kd.V_lower (Kd.V_mono (ok' := fun k_ => True) ho0 (fun k_ hk_ => trivial)) (below_size (by repeat (first | (with_reducible first | exact HB.out | apply below_alloc | apply pw_below_drewN | apply below_drew1) | exact HB.out)))); have n1_ := Aside0.mk (below_step (by repeat (first | (with_reducible first | exact HB.out | apply below_alloc | apply pw_below_drewN | apply below_drew1) | exact HB.out)) hb); clear HB; have HO225 := n0_; have HB := n1_; clear n0_ n1_; (try clear hb); (try clear hb2); (try clear hk); (try clear hi); (try clear ho0); obtain ⟨Ao80, co80, eo80⟩ := Kd.V_slice HO225.out; subst eo80))
                repeat (go_quiet (first | (go_at_call 8; (with_reducible refine (lex_Lex.calls kj6 x0_1 t223 t226 t227 _ (Gl.below HG.out (by repeat (first | (with_reducible first | exact HB.out | apply below_alloc | apply pw_below_drewN | apply below_drew1) | exact HB.out))) A15.out).mono ?_); rintro e w79 ⟨v224, rfl, ho0, hb⟩; have n0_ := Aside0.mk (Kd.V_lower (Kd.V_mono (ok' := fun k_ => True) ho0 (fun k_ hk_ => trivial)) (below_size (by repeat (first | (with_reducible first | exact HB.out | apply below_alloc | apply pw_below_drewN | apply below_drew1) | exact HB.out)))); have n1_ := Aside0.mk (below_step (by repeat (first | (with_reducible first | exact HB.out | apply below_alloc | apply pw_below_drewN | apply below_drew1) | exact HB.out)) hb); clear HB; have HO225 := n0_; have HB := n1_; clear n0_ n1_; (try clear hb); (try clear hb2); (try clear hk); (try clear hi); (try clear ho0); obtain ⟨Ao80, co80, eo80⟩ := Kd.V_slice HO225.out; subst eo80)); try go_wp2_with (first | (go_at_call 8; (with_reducible refine (lex_Lex.calls kj6 x0_1 t223 t226 t227 _ (Gl.below HG.out (by repeat (first | (with_reducible first | exact HB.out | apply below_alloc | apply pw_below_drewN | apply below_drew1) | exact HB.out))) A15.out).mono ?_); rintro e w79 ⟨v224, rfl, ho0, hb⟩; have n0_ := Aside0.mk (Kd.V_lower (Kd.V_mono (ok' := fun k_ => True) ho0 (fun k_ hk_ => trivial)) (below_size (by repeat (first | (with_reducible first | exact HB.out | apply below_alloc | apply pw_below_drewN | apply below_drew1) | exact HB.out)))); have n1_ := Aside0.mk (below_step (by repeat (first | (with_reducible first | exact HB.out | apply below_alloc | apply pw_below_drewN | apply below_drew1) | exact HB.out)) hb); clear HB; have HO225 := n0_; have HB := n1_; clear n0_ n1_; (try clear hb); (try clear hb2); (try clear hk); (try clear hi); (try clear ho0); obtain ⟨Ao80, co80, eo80⟩ := Kd.V_slice HO225.out; subst eo80)))
                go_ret
                exact ⟨by first | rfl | (simp [errW_none, errW_some] <;> rfl) | (simp [*, errW_none, errW_some] <;> rfl), by repeat (first | (with_reducible first | exact HB.out | apply below_alloc | apply pw_below_drewN | apply below_drew1) | exact HB.out)⟩

/-- THE ONE PURE STATEMENT of ferrulelaw02_LexParts: yours. -/
def ferrulelaw02_LexParts.Pure : Prop := ∀ (a0 : ByteArray), a0.size ≤ 140737488351232 → ∃ k, ferrulelaw02_LexParts.f k a0 = some true
theorem ferrulelaw02_LexParts.walk (P : ferrulelaw02_LexParts.Pure) (a0 : ByteArray) (w : World) (hG : Gl w) (w0 : a0.size ≤ 140737488351232) :
    Calls Tryd.prog 5 #[.string a0] w fun e w' => e = .returned (.bool true) ∧ Below w.heap.size w w' := by
  obtain ⟨k, h⟩ := P a0 w0
  refine (ferrulelaw02_LexParts.calls k a0 true w hG h).mono ?_
  rintro e w' ⟨rfl, hd⟩
  exact ⟨rfl, hd⟩

end Go.Proofs.YtafjbebbmfihaaaDoor.P
