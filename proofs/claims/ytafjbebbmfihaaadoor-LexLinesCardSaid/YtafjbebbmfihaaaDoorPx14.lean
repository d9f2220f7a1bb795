-- Laid by a program of this session over the kit's print. Not trusted: Lean checks it.
import Derived.Test.YtafjbebbmfihaaaDoorPx0
import Derived.Test.YtafjbebbmfihaaaDoorPx13
namespace Go.Proofs.YtafjbebbmfihaaaDoor.P
open Go.RowKit Go.Proofs.YtafjbebbmfihaaaDoorW.PrintWords Go.Proofs.YtafjbebbmfihaaaDoorW.PrintLast Go.Proofs.YtafjbebbmfihaaaDoorW.PrintMore
attribute [local go_sem] max2_int min2_int max_two min_two max_three min_three max_four min_four   -- for this text's walks alone
set_option linter.unusedVariables false
set_option linter.unusedSimpArgs false

/-! ### lex_Number: function 11 -/
mutual
def lex_Number.j1 : Nat → ByteArray → Int → Int → Option (Int × ByteArray × Int)
  | 0, _, _, _ => none
  | k + 1, x0, x2, x5 => if x5 = 0 then (lex_Number.j2 k x0 x2 x5 true) else (if x5 > 10 then (lex_Number.j2 k x0 x2 x5 true) else (if x5 > 1 then (if 0 < (x0.size : Int) then (lex_Number.j2 k x0 x2 x5 ((bt x0 0) == 48)) else (none)) else (lex_Number.j2 k x0 x2 x5 false)))
def lex_Number.j2 : Nat → ByteArray → Int → Int → Bool → Option (Int × ByteArray × Int)
  | 0, _, _, _, _ => none
  | k + 1, x0, x2, x5, x33 => if x33 = true then (some (0, (⟨#[]⟩ : ByteArray), 21)) else (lex_Number.l1 k x0 x2 x5 x5 0)
def lex_Number.l1 : Nat → ByteArray → Int → Int → Int → Int → Option (Int × ByteArray × Int)
  | 0, _, _, _, _, _ => none
  | k + 1, x0, x2, x5, x34, x35 => if x35 < x34 then (if 0 ≤ x35 then (if x35 < (x0.size : Int) then (lex_Number.l1 k x0 (wrap64 ((wrap64 (10 * x2)) + (((bt x0 x35) - 48) % 256))) x5 x34 (wrap64 (x35 + 1))) else (none)) else (none)) else (if 0 ≤ x5 then (if x5 ≤ (x0.size : Int) then (if (x0.extract (x5 : Int).toNat x0.size).toList = ([] : List UInt8) then (lex_Number.j4 k x2 (x0.extract (x5 : Int).toNat x0.size) ((x0.extract (x5 : Int).toNat x0.size).toList == ([] : List UInt8))) else (if (x0.extract (x5 : Int).toNat x0.size).toList = ([105, 56] : List UInt8) then (lex_Number.j4 k x2 (x0.extract (x5 : Int).toNat x0.size) ((x0.extract (x5 : Int).toNat x0.size).toList == ([105, 56] : List UInt8))) else (if (x0.extract (x5 : Int).toNat x0.size).toList = ([105, 49, 54] : List UInt8) then (lex_Number.j4 k x2 (x0.extract (x5 : Int).toNat x0.size) ((x0.extract (x5 : Int).toNat x0.size).toList == ([105, 49, 54] : List UInt8))) else (if (x0.extract (x5 : Int).toNat x0.size).toList = ([105, 51, 50] : List UInt8) then (lex_Number.j4 k x2 (x0.extract (x5 : Int).toNat x0.size) ((x0.extract (x5 : Int).toNat x0.size).toList == ([105, 51, 50] : List UInt8))) else (if (x0.extract (x5 : Int).toNat x0.size).toList = ([117, 56] : List UInt8) then (lex_Number.j4 k x2 (x0.extract (x5 : Int).toNat x0.size) ((x0.extract (x5 : Int).toNat x0.size).toList == ([117, 56] : List UInt8))) else (if (x0.extract (x5 : Int).toNat x0.size).toList = ([117, 49, 54] : List UInt8) then (lex_Number.j4 k x2 (x0.extract (x5 : Int).toNat x0.size) ((x0.extract (x5 : Int).toNat x0.size).toList == ([117, 49, 54] : List UInt8))) else (lex_Number.j4 k x2 (x0.extract (x5 : Int).toNat x0.size) ((x0.extract (x5 : Int).toNat x0.size).toList == ([117, 51, 50] : List UInt8))))))))) else (none)) else (none))
def lex_Number.j4 : Nat → Int → ByteArray → Bool → Option (Int × ByteArray × Int)
  | 0, _, _, _ => none
  | k + 1, x2, x3, x51 => if x51 = true then (if x2 > 4294967295 then (some (0, (⟨#[]⟩ : ByteArray), 21)) else (some (x2, x3, 0))) else (some (0, (⟨#[]⟩ : ByteArray), 21))
def lex_Number.l0 : Nat → ByteArray → Int → Int → Option (Int × ByteArray × Int)
  | 0, _, _, _ => none
  | k + 1, x0, x2, x5 => if x5 < (x0.size : Int) then (if 0 ≤ x5 then ((lex_isDigit.f (bt x0 x5)).bind fun t105 => (if t105 = true then (lex_Number.l0 k x0 x2 (wrap64 (x5 + 1))) else (lex_Number.j1 k x0 x2 x5))) else (none)) else (lex_Number.j1 k x0 x2 x5)
end
def lex_Number.f (k : Nat) (a0 : ByteArray) : Option (Int × ByteArray × Int) := lex_Number.l0 k a0 0 0
theorem lex_Number.mono_l : ∀ k, (∀ y0 y1 y2, LeO (lex_Number.j1 k y0 y1 y2) (lex_Number.j1 (k + 1) y0 y1 y2)) ∧ (∀ y0 y1 y2 y3, LeO (lex_Number.j2 k y0 y1 y2 y3) (lex_Number.j2 (k + 1) y0 y1 y2 y3)) ∧ (∀ y0 y1 y2 y3 y4, LeO (lex_Number.l1 k y0 y1 y2 y3 y4) (lex_Number.l1 (k + 1) y0 y1 y2 y3 y4)) ∧ (∀ y0 y1 y2, LeO (lex_Number.j4 k y0 y1 y2) (lex_Number.j4 (k + 1) y0 y1 y2)) ∧ (∀ y0 y1 y2, LeO (lex_Number.l0 k y0 y1 y2) (lex_Number.l0 (k + 1) y0 y1 y2))
  | 0 => ⟨fun _ _ _ r h => by simp [lex_Number.j1] at h, fun _ _ _ _ r h => by simp [lex_Number.j2] at h, fun _ _ _ _ _ r h => by simp [lex_Number.l1] at h, fun _ _ _ r h => by simp [lex_Number.j4] at h, fun _ _ _ r h => by simp [lex_Number.l0] at h⟩
  | k + 1 => by
    obtain ⟨ih0, ih1, ih2, ih3, ih4⟩ := lex_Number.mono_l k
    refine ⟨?_, ?_, ?_, ?_, ?_⟩
    · intro y0 y1 y2
      unfold lex_Number.j1
      repeat' first
      | (with_reducible exact ih0 _ _ _)
      | (with_reducible exact ih1 _ _ _ _)
      | (with_reducible exact ih2 _ _ _ _ _)
      | (with_reducible exact ih3 _ _ _)
      | (with_reducible exact ih4 _ _ _)
      | (with_reducible exact LeO.refl _)
      | (with_reducible exact LeO.none _)
      | (with_reducible refine LeO.ite ?_ ?_)
      | (with_reducible refine LeO.bind ?_ (fun _ => ?_))
      | exact ih0 _ _ _
      | exact ih1 _ _ _ _
      | exact ih2 _ _ _ _ _
      | exact ih3 _ _ _
      | exact ih4 _ _ _
      | exact LeO.none _
      | refine LeO.ite ?_ ?_
      | refine LeO.bind ?_ (fun _ => ?_)
    · intro y0 y1 y2 y3
      unfold lex_Number.j2
      repeat' first
      | (with_reducible exact ih0 _ _ _)
      | (with_reducible exact ih1 _ _ _ _)
      | (with_reducible exact ih2 _ _ _ _ _)
      | (with_reducible exact ih3 _ _ _)
      | (with_reducible exact ih4 _ _ _)
      | (with_reducible exact LeO.refl _)
      | (with_reducible exact LeO.none _)
      | (with_reducible refine LeO.ite ?_ ?_)
      | (with_reducible refine LeO.bind ?_ (fun _ => ?_))
      | exact ih0 _ _ _
      | exact ih1 _ _ _ _
      | exact ih2 _ _ _ _ _
      | exact ih3 _ _ _
      | exact ih4 _ _ _
      | exact LeO.none _
      | refine LeO.ite ?_ ?_
      | refine LeO.bind ?_ (fun _ => ?_)
    · intro y0 y1 y2 y3 y4
      unfold lex_Number.l1
      repeat' first
      | (with_reducible exact ih0 _ _ _)
      | (with_reducible exact ih1 _ _ _ _)
      | (with_reducible exact ih2 _ _ _ _ _)
      | (with_reducible exact ih3 _ _ _)
      | (with_reducible exact ih4 _ _ _)
      | (with_reducible exact LeO.refl _)
      | (with_reducible exact LeO.none _)
      | (with_reducible refine LeO.ite ?_ ?_)
      | (with_reducible refine LeO.bind ?_ (fun _ => ?_))
      | exact ih0 _ _ _
      | exact ih1 _ _ _ _
      | exact ih2 _ _ _ _ _
      | exact ih3 _ _ _
      | exact ih4 _ _ _
      | exact LeO.none _
      | refine LeO.ite ?_ ?_
      | refine LeO.bind ?_ (fun _ => ?_)
    · intro y0 y1 y2
      unfold lex_Number.j4
      repeat' first
      | (with_reducible exact ih0 _ _ _)
      | (with_reducible exact ih1 _ _ _ _)
      | (with_reducible exact ih2 _ _ _ _ _)
      | (with_reducible exact ih3 _ _ _)
      | (with_reducible exact ih4 _ _ _)
      | (with_reducible exact LeO.refl _)
      | (with_reducible exact LeO.none _)
      | (with_reducible refine LeO.ite ?_ ?_)
      | (with_reducible refine LeO.bind ?_ (fun _ => ?_))
      | exact ih0 _ _ _
      | exact ih1 _ _ _ _
      | exact ih2 _ _ _ _ _
      | exact ih3 _ _ _
      | exact ih4 _ _ _
      | exact LeO.none _
      | refine LeO.ite ?_ ?_
      | refine LeO.bind ?_ (fun _ => ?_)
    · intro y0 y1 y2
      unfold lex_Number.l0
      repeat' first
      | (with_reducible exact ih0 _ _ _)
      | (with_reducible exact ih1 _ _ _ _)
      | (with_reducible exact ih2 _ _ _ _ _)
      | (with_reducible exact ih3 _ _ _)
      | (with_reducible exact ih4 _ _ _)
      | (with_reducible exact LeO.refl _)
      | (with_reducible exact LeO.none _)
      | (with_reducible refine LeO.ite ?_ ?_)
      | (with_reducible refine LeO.bind ?_ (fun _ => ?_))
      | exact ih0 _ _ _
      | exact ih1 _ _ _ _
      | exact ih2 _ _ _ _ _
      | exact ih3 _ _ _
      | exact ih4 _ _ _
      | exact LeO.none _
      | refine LeO.ite ?_ ?_
      | refine LeO.bind ?_ (fun _ => ?_)
theorem lex_Number.mono : ∀ a0 k, LeO (lex_Number.f k a0) (lex_Number.f (k + 1) a0) := by
  intro a0 k
  obtain ⟨ih0, ih1, ih2, ih3, ih4⟩ := lex_Number.mono_l k
  unfold lex_Number.f
  repeat' first
      | (with_reducible exact ih0 _ _ _)
      | (with_reducible exact ih1 _ _ _ _)
      | (with_reducible exact ih2 _ _ _ _ _)
      | (with_reducible exact ih3 _ _ _)
      | (with_reducible exact ih4 _ _ _)
      | (with_reducible exact LeO.refl _)
      | (with_reducible exact LeO.none _)
      | (with_reducible refine LeO.ite ?_ ?_)
      | (with_reducible refine LeO.bind ?_ (fun _ => ?_))
      | exact ih0 _ _ _
      | exact ih1 _ _ _ _
      | exact ih2 _ _ _ _ _
      | exact ih3 _ _ _
      | exact ih4 _ _ _
      | exact LeO.none _
      | refine LeO.ite ?_ ?_
      | refine LeO.bind ?_ (fun _ => ?_)
set_option maxHeartbeats 8000000 in
set_option maxRecDepth 100000 in
theorem lex_Number.calls (k : Nat) (a0 : ByteArray) (r1 : Int) (r2 : ByteArray) (r3 : Int) (w : World) (h : lex_Number.f k a0 = some (r1, r2, r3)) :
    Calls Tryd.prog 11 #[.string a0] w fun e w' => e = .returned (.tuple #[.int .i64 r1, .string r2, .int .i64 r3]) ∧ Drawn0 w w' := by
  have H : (lex_Number.l0 k a0 0 0) = some (r1, r2, r3) := h
  clear h
  have HC2 := Aside0.mk H
  clear H
  go_enter Tryd.func11, Tryd.ntmps11
  go_upto_block 0 with (fail)
  go_cut [5] (fun v5 wc => ∃ (kq : Nat) (x5_1 : Int), v5 = .int .i64 x5_1 ∧ Aside0 (lex_Number.j1 kq a0 0 x5_1 = some (r1, r2, r3)) ∧ Aside0 (kq ≤ k) ∧ Drawn0 w wc)
  case first =>
    have H := HC2.out
    clear HC2
    have H' := Aside0.mk H
    clear H
    go_wp2
    go_loopg [5] k (fun kq v5 w' => ∃ (x5_1 : Int), v5 = .int .i64 x5_1 ∧ Aside0 (lex_Number.l0 kq a0 0 x5_1 = some (r1, r2, r3)) ∧ Aside0 (kq ≤ k) ∧ Drawn0 w w')
    case atStart => exact ⟨(0), (by first | rfl | (simp; done) | (simp [*]; done)), H', ⟨Nat.le_refl _⟩, by repeat (first | exact Drawn0.refl _ | apply Drawn0.step)⟩
    case round =>
      clear H'
      try clear c1
      try clear p2
      obtain ⟨x5_1, rfl, HA, HK1, ⟨m1, rfl⟩⟩ := hrel
      cases gk with
      | zero => exact absurd HA.out (by simp [lex_Number.l0])
      | succ k1 =>
        have H := HA.out
        clear HA
        simp only [lex_Number.l0] at H
        by_cases c3 : x5_1 < (a0.size : Int)
        · rw [if_pos c3] at H
          have c3b0 : decide (x5_1 < (a0.size : Int)) = true := decide_eq_true c3
          clear c3
          (first | rw [c3b0] | (simp only [i64_w, i32_w]; rw [c3b0]) | skip)
          by_cases c4 : 0 ≤ x5_1
          · rw [if_pos c4] at H
            have c4b0 : decide (0 ≤ x5_1) = true := decide_eq_true c4
            clear c4
            replace H := Option.bind_eq_some_iff.mp H
            obtain ⟨t105, A60, H⟩ := H
            replace H : (if t105 = true then (lex_Number.l0 k1 a0 0 (wrap64 (x5_1 + 1))) else (lex_Number.j1 k1 a0 0 x5_1)) = some (r1, r2, r3) := H
            have A6 := Aside0.mk A60
            clear A60
            by_cases c7 : t105 = true
            · subst c7
              have H1 : (lex_Number.l0 k1 a0 0 (wrap64 (x5_1 + 1))) = some (r1, r2, r3) := by rw [if_pos rfl] at H; exact H
              clear H
              have H := H1
              clear H1
              have H' := Aside0.mk H
              clear H
              have p5 : 0 ≤ (x5_1 : Int) := of_decide_eq_true (by first | (with_reducible assumption) | assumption)
              have q5 : x5_1 < (a0.size : Int) := of_decide_eq_true (by first | (with_reducible assumption) | assumption)
              have hx5 := bt_at a0 x5_1
              replace p5 := eq_true p5
              replace q5 := eq_true q5
              go_wp2_with (first | (go_at_call 23; (with_reducible refine (lex_isDigit.calls (bt a0 x5_1) true _ A6.out).mono ?_); rintro e w' ⟨rfl, ⟨nd, rfl⟩⟩))
              go_roundg k1
              case measure => have := HK1.out; omega
              case rel => exact ⟨(wrap64 (x5_1 + 1)), (by first | rfl | (simp; done) | (simp [*]; done)), H', ⟨by have := HK1.out; omega⟩, by repeat (first | exact Drawn0.refl _ | apply Drawn0.step)⟩
            · replace c7 := Bool.eq_false_iff.mpr c7
              subst c7
              have H1 : (lex_Number.j1 k1 a0 0 x5_1) = some (r1, r2, r3) := by rw [if_neg (show ¬ (false = true) by decide)] at H; exact H
              clear H
              have H := H1
              clear H1
              have H' := Aside0.mk H
              clear H
              have p5 : 0 ≤ (x5_1 : Int) := of_decide_eq_true (by first | (with_reducible assumption) | assumption)
              have q5 : x5_1 < (a0.size : Int) := of_decide_eq_true (by first | (with_reducible assumption) | assumption)
              have hx5 := bt_at a0 x5_1
              replace p5 := eq_true p5
              replace q5 := eq_true q5
              go_wp2_with (first | (go_at_call 23; (with_reducible refine (lex_isDigit.calls (bt a0 x5_1) false _ A6.out).mono ?_); rintro e w' ⟨rfl, ⟨nd, rfl⟩⟩))
              go_meet
              case rel => exact ⟨_, (x5_1), (by first | rfl | (simp; done) | (simp [*]; done)), H', ⟨by have := HK1.out; first | omega | exact Nat.le_refl _⟩, by repeat (first | exact Drawn0.refl _ | apply Drawn0.step)⟩
          · rw [if_neg c4] at H
            exact absurd H (by simp)
        · rw [if_neg c3] at H
          have c3b0 : decide (x5_1 < (a0.size : Int)) = false := decide_eq_false c3
          clear c3
          (first | rw [c3b0] | (simp only [i64_w, i32_w]; rw [c3b0]) | skip)
          have H' := Aside0.mk H
          clear H
          go_wp2
          go_meet
          case rel => exact ⟨_, (x5_1), (by first | rfl | (simp; done) | (simp [*]; done)), H', ⟨by have := HK1.out; first | omega | exact Nat.le_refl _⟩, by repeat (first | exact Drawn0.refl _ | apply Drawn0.step)⟩
  case rest =>
    clear HC2
    try clear c1
    try clear p2
    try clear c3
    try clear c3b0
    try clear c4
    try clear c4b0
    try clear p5
    try clear q5
    try clear hx5
    try clear p6
    try clear c7
    try clear p2
    try clear p5
    try clear q5
    obtain ⟨kq, x5_1, rfl, HA, HJ1, ⟨mc1, rfl⟩⟩ := hcut
    cases kq with
    | zero => exact absurd HA.out (by simp [lex_Number.j1])
    | succ kj1 =>
      have H := HA.out
      clear HA
      simp only [lex_Number.j1] at H
      have HC8 := Aside0.mk H
      clear H
      go_upto_region 4 with (fail)
      go_cut [33] (fun v33 wc => ∃ (kq : Nat) (x33_7 : Bool), v33 = .bool x33_7 ∧ Aside0 (lex_Number.j2 kq a0 0 x5_1 x33_7 = some (r1, r2, r3)) ∧ Aside0 (kq ≤ kj1) ∧ Drawn0 w wc)
      case first =>
        have H := HC8.out
        clear HC8
        by_cases c9 : x5_1 = 0
        · rw [if_pos c9] at H
          have c9b0 : (x5_1 == 0) = true := beq_iff_eq.mpr c9
          have c9b1 : (x5_1 != 0) = false := bne_eq_false_iff_eq.mpr c9
          clear c9
          (first | rw [c9b0] | (simp only [i64_w, i32_w]; rw [c9b0]) | skip)
          have H' := Aside0.mk H
          clear H
          go_wp2
          go_meet
          case rel => exact ⟨_, (true), (by first | rfl | (simp; done) | (simp [*]; done)), H', ⟨by have := HJ1.out; first | omega | exact Nat.le_refl _⟩, by repeat (first | exact Drawn0.refl _ | apply Drawn0.step)⟩
        · rw [if_neg c9] at H
          have c9b0 : (x5_1 == 0) = false := beq_eq_false_iff_ne.mpr c9
          have c9b1 : (x5_1 != 0) = true := bne_iff_ne.mpr c9
          (first | rw [c9b0] | (simp only [i64_w, i32_w]; rw [c9b0]) | skip)
          by_cases c10 : x5_1 > 10
          · rw [if_pos c10] at H
            have c10b0 : decide (10 < x5_1) = true := decide_eq_true c10
            clear c10
            have H' := Aside0.mk H
            clear H
            go_wp2
            go_meet
            case rel => exact ⟨_, (true), (by first | rfl | (simp; done) | (simp [*]; done)), H', ⟨by have := HJ1.out; first | omega | exact Nat.le_refl _⟩, by repeat (first | exact Drawn0.refl _ | apply Drawn0.step)⟩
          · rw [if_neg c10] at H
            have c10b0 : decide (10 < x5_1) = false := decide_eq_false c10
            clear c10
            by_cases c11 : x5_1 > 1
            · rw [if_pos c11] at H
              have c11b0 : decide (1 < x5_1) = true := decide_eq_true c11
              clear c11
              by_cases c12 : 0 < (a0.size : Int)
              · rw [if_pos c12] at H
                have c12b0 : decide (0 < (a0.size : Int)) = true := decide_eq_true c12
                have c12b1 : decide (0 < a0.size) = true := decide_eq_true (by omega)
                clear c12
                have H' := Aside0.mk H
                clear H
                have p13 : 0 ≤ (0 : Int) := (by omega)
                have q13 : 0 < a0.size := (by have : (0 : Int) < (a0.size : Int) := of_decide_eq_true (by first | (with_reducible assumption) | assumption); omega)
                have hx13 : ∀ h : 0 < a0.size, ((a0[0]'h).toNat : Int) = bt a0 0 := bt_at a0 0
                clear p13
                have qi13 : (0 < (a0.size : Int)) = True := eq_true (of_decide_eq_true (by first | (with_reducible assumption) | assumption))
                replace q13 := eq_true q13
                go_wp2
                go_meet
                case rel => exact ⟨_, (((bt a0 0) == 48)), (by first | rfl | (simp; done) | (simp [*]; done)), H', ⟨by have := HJ1.out; first | omega | exact Nat.le_refl _⟩, by repeat (first | exact Drawn0.refl _ | apply Drawn0.step)⟩
              · rw [if_neg c12] at H
                exact absurd H (by simp)
            · rw [if_neg c11] at H
              have c11b0 : decide (1 < x5_1) = false := decide_eq_false c11
              clear c11
              have H' := Aside0.mk H
              clear H
              go_wp2
              go_meet
              case rel => exact ⟨_, (false), (by first | rfl | (simp; done) | (simp [*]; done)), H', ⟨by have := HJ1.out; first | omega | exact Nat.le_refl _⟩, by repeat (first | exact Drawn0.refl _ | apply Drawn0.step)⟩
      case rest =>
        clear HC8
        try clear c1
        try clear p1
        try clear q1
        try clear hx1
        try clear qi1
        try clear p2
        try clear c3
        try clear c3b0
        try clear c4
        try clear c4b0
        try clear p5
        try clear q5
        try clear hx5
        try clear p6
        try clear c7
        try clear c9
        try clear c9b0
        try clear c9b1
        try clear c10
        try clear c10b0
        try clear c11
        try clear c11b0
        try clear c12
        try clear c12b0
        try clear c12b1
        try clear p13
        try clear q13
        try clear hx13
        try clear qi13
        try clear p13
        try clear p2
        try clear p5
        try clear p6
        try clear q13
        try clear q5
        obtain ⟨kq, x33_7, rfl, HA, HJ7, ⟨mc7, rfl⟩⟩ := hcut
        cases kq with
        | zero => exact absurd HA.out (by simp [lex_Number.j2])
        | succ kj7 =>
          have H := HA.out
          clear HA
          simp only [lex_Number.j2] at H
          by_cases c14 : x33_7 = true
          · subst c14
            have H1 : (some (0, (⟨#[]⟩ : ByteArray), 21)) = some (r1, r2, r3) := by rw [if_pos rfl] at H; exact H
            clear H
            have H := H1
            clear H1
            simp only [Option.some.injEq, Prod.mk.injEq] at H
            obtain ⟨rfl, rfl, rfl⟩ := H
            go_wp2
            go_ret3
            exact ⟨by first | rfl | (simp; done) | (simp [*]; done), by repeat (first | exact Drawn0.refl _ | apply Drawn0.step)⟩
          · replace c14 := Bool.eq_false_iff.mpr c14
            subst c14
            have H1 : (lex_Number.l1 kj7 a0 0 x5_1 x5_1 0) = some (r1, r2, r3) := by rw [if_neg (show ¬ (false = true) by decide)] at H; exact H
            clear H
            have H := H1
            clear H1
            have H' := Aside0.mk H
            clear H
            go_wp2
            go_loopg [2, 35] kj7 (fun kq v2 v35 w' => ∃ (x2_3 : Int) (x35_3 : Int), v2 = .int .i64 x2_3 ∧ v35 = .int .i64 x35_3 ∧ Aside0 (lex_Number.l1 kq a0 x2_3 x5_1 x5_1 x35_3 = some (r1, r2, r3)) ∧ Aside0 (kq ≤ kj7) ∧ Drawn0 w w')
            case atStart => exact ⟨(0), (0), (by first | rfl | (simp; done) | (simp [*]; done)), (by first | rfl | (simp; done) | (simp [*]; done)), H', ⟨Nat.le_refl _⟩, by repeat (first | exact Drawn0.refl _ | apply Drawn0.step)⟩
            case round =>
              clear H'
              try clear c1
              try clear p1
              try clear q1
              try clear hx1
              try clear qi1
              try clear p2
              try clear c3
              try clear c3b0
              try clear c4
              try clear c4b0
              try clear p5
              try clear q5
              try clear hx5
              try clear p6
              try clear c7
              try clear c9
              try clear c9b0
              try clear c9b1
              try clear c10
              try clear c10b0
              try clear c11
              try clear c11b0
              try clear c12
              try clear c12b0
              try clear c12b1
              try clear p13
              try clear q13
              try clear hx13
              try clear qi13
              try clear c14
              try clear p1
              try clear p13
              try clear p2
              try clear p5
              try clear p6
              try clear q1
              try clear q13
              try clear q5
              obtain ⟨x2_3, x35_3, rfl, rfl, HA, HK3, ⟨m3, rfl⟩⟩ := hrel
              cases gk with
              | zero => exact absurd HA.out (by simp [lex_Number.l1])
              | succ k3 =>
                have H := HA.out
                clear HA
                simp only [lex_Number.l1] at H
                by_cases c15 : x35_3 < x5_1
                · rw [if_pos c15] at H
                  have c15b0 : decide (x35_3 < x5_1) = true := decide_eq_true c15
                  clear c15
                  by_cases c16 : 0 ≤ x35_3
                  · rw [if_pos c16] at H
                    have c16b0 : decide (0 ≤ x35_3) = true := decide_eq_true c16
                    clear c16
                    by_cases c17 : x35_3 < (a0.size : Int)
                    · rw [if_pos c17] at H
                      have c17b0 : decide (x35_3 < (a0.size : Int)) = true := decide_eq_true c17
                      clear c17
                      have H' := Aside0.mk H
                      clear H
                      have p18 : 0 ≤ (x35_3 : Int) := of_decide_eq_true (by first | (with_reducible assumption) | assumption)
                      have q18 : x35_3 < (a0.size : Int) := of_decide_eq_true (by first | (with_reducible assumption) | assumption)
                      have hx18 := bt_at a0 x35_3
                      replace p18 := eq_true p18
                      replace q18 := eq_true q18
                      go_wp2
                      go_roundg k3
                      case measure => have := HJ1.out; have := HJ7.out; have := HK3.out; omega
                      case rel => exact ⟨(wrap64 ((wrap64 (10 * x2_3)) + (((bt a0 x35_3) - 48) % 256))), (wrap64 (x35_3 + 1)), (by first | rfl | (simp; done) | (simp [*]; done)), (by first | rfl | (simp; done) | (simp [*]; done)), H', ⟨by have := HJ1.out; have := HJ7.out; have := HK3.out; omega⟩, by repeat (first | exact Drawn0.refl _ | apply Drawn0.step)⟩
                    · rw [if_neg c17] at H
                      exact absurd H (by simp)
                  · rw [if_neg c16] at H
                    exact absurd H (by simp)
                · rw [if_neg c15] at H
                  have c15b0 : decide (x35_3 < x5_1) = false := decide_eq_false c15
                  clear c15
                  by_cases c19 : 0 ≤ x5_1
                  · rw [if_pos c19] at H
                    have c19b0 := eq_true c19
                    have c19b1 : decide (0 ≤ x5_1) = true := decide_eq_true c19
                    clear c19
                    by_cases c20 : x5_1 ≤ (a0.size : Int)
                    · rw [if_pos c20] at H
                      have c20b0 := eq_true c20
                      have c20b1 : decide (x5_1 ≤ (a0.size : Int)) = true := decide_eq_true c20
                      clear c20
                      have HC21 := Aside0.mk H
                      clear H
                      go_upto_if 51 with (fail)
                      go_cut [51] (fun v51 wc => ∃ (kq : Nat) (x51_20 : Bool), v51 = .bool x51_20 ∧ Aside0 (lex_Number.j4 kq x2_3 (a0.extract (x5_1 : Int).toNat a0.size) x51_20 = some (r1, r2, r3)) ∧ Aside0 (kq ≤ k3) ∧ Drawn0 w wc)
                      case first =>
                        have H := HC21.out
                        clear HC21
                        by_cases c22 : (a0.extract (x5_1 : Int).toNat a0.size).toList = ([] : List UInt8)
                        · rw [if_pos c22] at H
                          have c22b0 : ((a0.extract (x5_1 : Int).toNat a0.size).toList == ([] : List UInt8)) = true := beq_iff_eq.mpr c22
                          have c22b1 : ((a0.extract (x5_1 : Int).toNat a0.size).toList != ([] : List UInt8)) = false := bne_eq_false_iff_eq.mpr c22
                          have c22k : Aside0 (((a0.extract (x5_1 : Int).toNat a0.size)).toList = []) := ⟨c22⟩
                          clear c22
                          (first | rw [c22b0] | (simp only [i64_w, i32_w]; rw [c22b0]) | skip)
                          have H' := Aside0.mk H
                          clear H
                          go_wp2
                          any_goals (first | (exfalso; have hq_ : ((a0.extract (x5_1 : Int).toNat a0.size)).toList.isEmpty = false := (by assumption); rw [c22k.out] at hq_; exact absurd hq_ (by decide)) | skip)
                          go_meet
                          case rel => exact ⟨_, (((a0.extract (x5_1 : Int).toNat a0.size).toList == ([] : List UInt8))), (by first | rfl | (simp; done) | (simp [*]; done)), H', ⟨by have := HJ1.out; have := HJ7.out; have := HK3.out; first | omega | exact Nat.le_refl _⟩, by repeat (first | exact Drawn0.refl _ | apply Drawn0.step)⟩
                        · rw [if_neg c22] at H
                          have c22b0 : ((a0.extract (x5_1 : Int).toNat a0.size).toList == ([] : List UInt8)) = false := beq_eq_false_iff_ne.mpr c22
                          have c22b1 : ((a0.extract (x5_1 : Int).toNat a0.size).toList != ([] : List UInt8)) = true := bne_iff_ne.mpr c22
                          have c22k : Aside0 (¬ ((a0.extract (x5_1 : Int).toNat a0.size)).toList = []) := ⟨c22⟩
                          (first | rw [c22b0] | (simp only [i64_w, i32_w]; rw [c22b0]) | skip)
                          by_cases c23 : (a0.extract (x5_1 : Int).toNat a0.size).toList = ([105, 56] : List UInt8)
                          · rw [if_pos c23] at H
                            have c23b0 : ((a0.extract (x5_1 : Int).toNat a0.size).toList == ([105, 56] : List UInt8)) = true := beq_iff_eq.mpr c23
                            have c23b1 : ((a0.extract (x5_1 : Int).toNat a0.size).toList != ([105, 56] : List UInt8)) = false := bne_eq_false_iff_eq.mpr c23
                            clear c23
                            have H' := Aside0.mk H
                            clear H
                            go_wp2
                            any_goals (first | (exfalso; have hq_ : ((a0.extract (x5_1 : Int).toNat a0.size)).toList.isEmpty = true := (by assumption); exact absurd (List.isEmpty_iff.1 hq_) c22k.out) | skip)
                            go_meet
                            case rel => exact ⟨_, (((a0.extract (x5_1 : Int).toNat a0.size).toList == ([105, 56] : List UInt8))), (by first | rfl | (simp; done) | (simp [*]; done)), H', ⟨by have := HJ1.out; have := HJ7.out; have := HK3.out; first | omega | exact Nat.le_refl _⟩, by repeat (first | exact Drawn0.refl _ | apply Drawn0.step)⟩
                          · rw [if_neg c23] at H
                            have c23b0 : ((a0.extract (x5_1 : Int).toNat a0.size).toList == ([105, 56] : List UInt8)) = false := beq_eq_false_iff_ne.mpr c23
                            have c23b1 : ((a0.extract (x5_1 : Int).toNat a0.size).toList != ([105, 56] : List UInt8)) = true := bne_iff_ne.mpr c23
                            by_cases c24 : (a0.extract (x5_1 : Int).toNat a0.size).toList = ([105, 49, 54] : List UInt8)
                            · rw [if_pos c24] at H
                              have c24b0 : ((a0.extract (x5_1 : Int).toNat a0.size).toList == ([105, 49, 54] : List UInt8)) = true := beq_iff_eq.mpr c24
                              have c24b1 : ((a0.extract (x5_1 : Int).toNat a0.size).toList != ([105, 49, 54] : List UInt8)) = false := bne_eq_false_iff_eq.mpr c24
                              clear c24
                              have H' := Aside0.mk H
                              clear H
                              go_wp2
                              any_goals (first | (exfalso; have hq_ : ((a0.extract (x5_1 : Int).toNat a0.size)).toList.isEmpty = true := (by assumption); exact absurd (List.isEmpty_iff.1 hq_) c22k.out) | skip)
                              go_meet
                              case rel => exact ⟨_, (((a0.extract (x5_1 : Int).toNat a0.size).toList == ([105, 49, 54] : List UInt8))), (by first | rfl | (simp; done) | (simp [*]; done)), H', ⟨by have := HJ1.out; have := HJ7.out; have := HK3.out; first | omega | exact Nat.le_refl _⟩, by repeat (first | exact Drawn0.refl _ | apply Drawn0.step)⟩
                            · rw [if_neg c24] at H
                              have c24b0 : ((a0.extract (x5_1 : Int).toNat a0.size).toList == ([105, 49, 54] : List UInt8)) = false := beq_eq_false_iff_ne.mpr c24
                              have c24b1 : ((a0.extract (x5_1 : Int).toNat a0.size).toList != ([105, 49, 54] : List UInt8)) = true := bne_iff_ne.mpr c24
                              by_cases c25 : (a0.extract (x5_1 : Int).toNat a0.size).toList = ([105, 51, 50] : List UInt8)
                              · rw [if_pos c25] at H
                                have c25b0 : ((a0.extract (x5_1 : Int).toNat a0.size).toList == ([105, 51, 50] : List UInt8)) = true := beq_iff_eq.mpr c25
                                have c25b1 : ((a0.extract (x5_1 : Int).toNat a0.size).toList != ([105, 51, 50] : List UInt8)) = false := bne_eq_false_iff_eq.mpr c25
                                clear c25
                                have H' := Aside0.mk H
                                clear H
                                go_wp2
                                any_goals (first | (exfalso; have hq_ : ((a0.extract (x5_1 : Int).toNat a0.size)).toList.isEmpty = true := (by assumption); exact absurd (List.isEmpty_iff.1 hq_) c22k.out) | skip)
                                go_meet
                                case rel => exact ⟨_, (((a0.extract (x5_1 : Int).toNat a0.size).toList == ([105, 51, 50] : List UInt8))), (by first | rfl | (simp; done) | (simp [*]; done)), H', ⟨by have := HJ1.out; have := HJ7.out; have := HK3.out; first | omega | exact Nat.le_refl _⟩, by repeat (first | exact Drawn0.refl _ | apply Drawn0.step)⟩
                              · rw [if_neg c25] at H
                                have c25b0 : ((a0.extract (x5_1 : Int).toNat a0.size).toList == ([105, 51, 50] : List UInt8)) = false := beq_eq_false_iff_ne.mpr c25
                                have c25b1 : ((a0.extract (x5_1 : Int).toNat a0.size).toList != ([105, 51, 50] : List UInt8)) = true := bne_iff_ne.mpr c25
                                by_cases c26 : (a0.extract (x5_1 : Int).toNat a0.size).toList = ([117, 56] : List UInt8)
                                · rw [if_pos c26] at H
                                  have c26b0 : ((a0.extract (x5_1 : Int).toNat a0.size).toList == ([117, 56] : List UInt8)) = true := beq_iff_eq.mpr c26
                                  have c26b1 : ((a0.extract (x5_1 : Int).toNat a0.size).toList != ([117, 56] : List UInt8)) = false := bne_eq_false_iff_eq.mpr c26
                                  clear c26
                                  have H' := Aside0.mk H
                                  clear H
                                  go_wp2
                                  any_goals (first | (exfalso; have hq_ : ((a0.extract (x5_1 : Int).toNat a0.size)).toList.isEmpty = true := (by assumption); exact absurd (List.isEmpty_iff.1 hq_) c22k.out) | skip)
                                  go_meet
                                  case rel => exact ⟨_, (((a0.extract (x5_1 : Int).toNat a0.size).toList == ([117, 56] : List UInt8))), (by first | rfl | (simp; done) | (simp [*]; done)), H', ⟨by have := HJ1.out; have := HJ7.out; have := HK3.out; first | omega | exact Nat.le_refl _⟩, by repeat (first | exact Drawn0.refl _ | apply Drawn0.step)⟩
                                · rw [if_neg c26] at H
                                  have c26b0 : ((a0.extract (x5_1 : Int).toNat a0.size).toList == ([117, 56] : List UInt8)) = false := beq_eq_false_iff_ne.mpr c26
                                  have c26b1 : ((a0.extract (x5_1 : Int).toNat a0.size).toList != ([117, 56] : List UInt8)) = true := bne_iff_ne.mpr c26
                                  by_cases c27 : (a0.extract (x5_1 : Int).toNat a0.size).toList = ([117, 49, 54] : List UInt8)
                                  · rw [if_pos c27] at H
                                    have c27b0 : ((a0.extract (x5_1 : Int).toNat a0.size).toList == ([117, 49, 54] : List UInt8)) = true := beq_iff_eq.mpr c27
                                    have c27b1 : ((a0.extract (x5_1 : Int).toNat a0.size).toList != ([117, 49, 54] : List UInt8)) = false := bne_eq_false_iff_eq.mpr c27
                                    clear c27
                                    have H' := Aside0.mk H
                                    clear H
                                    go_wp2
                                    any_goals (first | (exfalso; have hq_ : ((a0.extract (x5_1 : Int).toNat a0.size)).toList.isEmpty = true := (by assumption); exact absurd (List.isEmpty_iff.1 hq_) c22k.out) | skip)
                                    go_meet
                                    case rel => exact ⟨_, (((a0.extract (x5_1 : Int).toNat a0.size).toList == ([117, 49, 54] : List UInt8))), (by first | rfl | (simp; done) | (simp [*]; done)), H', ⟨by have := HJ1.out; have := HJ7.out; have := HK3.out; first | omega | exact Nat.le_refl _⟩, by repeat (first | exact Drawn0.refl _ | apply Drawn0.step)⟩
                                  · rw [if_neg c27] at H
                                    have c27b0 : ((a0.extract (x5_1 : Int).toNat a0.size).toList == ([117, 49, 54] : List UInt8)) = false := beq_eq_false_iff_ne.mpr c27
                                    have c27b1 : ((a0.extract (x5_1 : Int).toNat a0.size).toList != ([117, 49, 54] : List UInt8)) = true := bne_iff_ne.mpr c27
                                    have H' := Aside0.mk H
                                    clear H
                                    go_wp2
                                    any_goals (first | (exfalso; have hq_ : ((a0.extract (x5_1 : Int).toNat a0.size)).toList.isEmpty = true := (by assumption); exact absurd (List.isEmpty_iff.1 hq_) c22k.out) | skip)
                                    go_meet
                                    case rel => exact ⟨_, (((a0.extract (x5_1 : Int).toNat a0.size).toList == ([117, 51, 50] : List UInt8))), (by first | rfl | (simp; done) | (simp [*]; done)), H', ⟨by have := HJ1.out; have := HJ7.out; have := HK3.out; first | omega | exact Nat.le_refl _⟩, by repeat (first | exact Drawn0.refl _ | apply Drawn0.step)⟩
                      case rest =>
                        clear HC21
                        try clear c1
                        try clear p1
                        try clear q1
                        try clear hx1
                        try clear qi1
                        try clear c2
                        try clear p2
                        try clear c3
                        try clear c3b0
                        try clear c4
                        try clear c4b0
                        try clear p5
                        try clear q5
                        try clear hx5
                        try clear p6
                        try clear c7
                        try clear c9
                        try clear c9b0
                        try clear c9b1
                        try clear c10
                        try clear c10b0
                        try clear c11
                        try clear c11b0
                        try clear c12
                        try clear c12b0
                        try clear c12b1
                        try clear p13
                        try clear q13
                        try clear hx13
                        try clear qi13
                        try clear c14
                        try clear c15
                        try clear c15b0
                        try clear c16
                        try clear c16b0
                        try clear c17
                        try clear c17b0
                        try clear p18
                        try clear q18
                        try clear hx18
                        try clear c19
                        try clear c19b0
                        try clear c19b1
                        try clear c20
                        try clear c20b0
                        try clear c20b1
                        try clear c22
                        try clear c22b0
                        try clear c22b1
                        try clear c23
                        try clear c23b0
                        try clear c23b1
                        try clear c24
                        try clear c24b0
                        try clear c24b1
                        try clear c25
                        try clear c25b0
                        try clear c25b1
                        try clear c26
                        try clear c26b0
                        try clear c26b1
                        try clear c27
                        try clear c27b0
                        try clear c27b1
                        try clear p1
                        try clear p13
                        try clear p18
                        try clear p2
                        try clear p5
                        try clear p6
                        try clear q1
                        try clear q13
                        try clear q18
                        try clear q5
                        obtain ⟨kq, x51_20, rfl, HA, HJ20, ⟨mc20, rfl⟩⟩ := hcut
                        cases kq with
                        | zero => exact absurd HA.out (by simp [lex_Number.j4])
                        | succ kj20 =>
                          have H := HA.out
                          clear HA
                          simp only [lex_Number.j4] at H
                          by_cases c28 : x51_20 = true
                          · subst c28
                            have H1 : (if x2_3 > 4294967295 then (some (0, (⟨#[]⟩ : ByteArray), 21)) else (some (x2_3, (a0.extract (x5_1 : Int).toNat a0.size), 0))) = some (r1, r2, r3) := by rw [if_pos rfl] at H; exact H
                            clear H
                            have H := H1
                            clear H1
                            by_cases c29 : x2_3 > 4294967295
                            · rw [if_pos c29] at H
                              have c29b0 : decide (4294967295 < x2_3) = true := decide_eq_true c29
                              clear c29
                              simp only [Option.some.injEq, Prod.mk.injEq] at H
                              obtain ⟨rfl, rfl, rfl⟩ := H
                              go_wp2
                              go_ret3
                              exact ⟨by first | rfl | (simp; done) | (simp [*]; done), by repeat (first | exact Drawn0.refl _ | apply Drawn0.step)⟩
                            · rw [if_neg c29] at H
                              have c29b0 : decide (4294967295 < x2_3) = false := decide_eq_false c29
                              clear c29
                              simp only [Option.some.injEq, Prod.mk.injEq] at H
                              obtain ⟨rfl, rfl, rfl⟩ := H
                              go_wp2
                              go_ret3
                              exact ⟨by first | rfl | (simp; done) | (simp [*]; done), by repeat (first | exact Drawn0.refl _ | apply Drawn0.step)⟩
                          · replace c28 := Bool.eq_false_iff.mpr c28
                            subst c28
                            have H1 : (some (0, (⟨#[]⟩ : ByteArray), 21)) = some (r1, r2, r3) := by rw [if_neg (show ¬ (false = true) by decide)] at H; exact H
                            clear H
                            have H := H1
                            clear H1
                            simp only [Option.some.injEq, Prod.mk.injEq] at H
                            obtain ⟨rfl, rfl, rfl⟩ := H
                            go_wp2
                            go_ret3
                            exact ⟨by first | rfl | (simp; done) | (simp [*]; done), by repeat (first | exact Drawn0.refl _ | apply Drawn0.step)⟩
                    · rw [if_neg c20] at H
                      exact absurd H (by simp)
                  · rw [if_neg c19] at H
                    exact absurd H (by simp)

end Go.Proofs.YtafjbebbmfihaaaDoor.P
