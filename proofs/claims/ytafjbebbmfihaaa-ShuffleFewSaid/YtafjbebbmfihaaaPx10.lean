-- Laid by a program of this session over the kit's print. Not trusted: Lean checks it.
import Derived.Test.YtafjbebbmfihaaaPx0
namespace Go.Proofs.Ytafjbebbmfihaaa.P
open Go.RowKit Go.Proofs.YtafjbebbmfihaaaW.PrintWords Go.Proofs.YtafjbebbmfihaaaW.PrintLast Go.Proofs.YtafjbebbmfihaaaW.PrintMore
attribute [local go_sem] max2_int min2_int max_two min_two max_three min_three max_four min_four   -- for this text's walks alone
set_option linter.unusedVariables false
set_option linter.unusedSimpArgs false

/-! ### ferrulelaw20_circles: function 16 -/
mutual
def ferrulelaw20_circles.l0 : Nat → List (S38) → Int → Int → Int → Option (Int × Int)
  | 0, _, _, _, _ => none
  | k + 1, x0, x4, x5, x6 => if x6 < (x0.length : Int) then (if 0 ≤ x6 then (if ((rd_T38 x0 x6).f0) = ((rd_T38 x0 x6).f1) then (ferrulelaw20_circles.l0 k x0 x4 x5 (wrap64 (x6 + 1))) else (ferrulelaw20_circles.l1 k x0 (wrap64 (x4 + 1)) x5 x6 ((rd_T38 x0 x6).f1) true 0)) else (none)) else (some (x5, x4))
def ferrulelaw20_circles.l1 : Nat → List (S38) → Int → Int → Int → Int → Bool → Int → Option (Int × Int)
  | 0, _, _, _, _, _, _, _ => none
  | k + 1, x0, x4, x5, x6, x7, x8, x9 => if x9 < (x0.length : Int) then (if 0 ≤ x6 then (if x6 < (x0.length : Int) then (ferrulelaw20_circles.j2 k x0 x4 x5 x6 x7 x8 x9 (x7 != ((rd_T38 x0 x6).f0))) else (none)) else (none)) else (ferrulelaw20_circles.j2 k x0 x4 x5 x6 x7 x8 x9 false)
def ferrulelaw20_circles.j2 : Nat → List (S38) → Int → Int → Int → Int → Bool → Int → Bool → Option (Int × Int)
  | 0, _, _, _, _, _, _, _, _ => none
  | k + 1, x0, x4, x5, x6, x7, x8, x9, x48 => if x48 = true then (ferrulelaw20_circles.l2 k x0 x4 x5 x6 x7 x8 x9 x7 0) else (if 0 ≤ x6 then (if x6 < (x0.length : Int) then (if x7 = ((rd_T38 x0 x6).f0) then (if x8 = true then (ferrulelaw20_circles.l0 k x0 x4 (wrap64 (x5 + 1)) (wrap64 (x6 + 1))) else (ferrulelaw20_circles.l0 k x0 x4 x5 (wrap64 (x6 + 1)))) else (ferrulelaw20_circles.l0 k x0 x4 x5 (wrap64 (x6 + 1)))) else (none)) else (none))
def ferrulelaw20_circles.l2 : Nat → List (S38) → Int → Int → Int → Int → Bool → Int → Int → Int → Option (Int × Int)
  | 0, _, _, _, _, _, _, _, _, _ => none
  | k + 1, x0, x4, x5, x6, x7, x8, x9, x10, x11 => if x11 < (x0.length : Int) then (if 0 ≤ x11 then (if ((rd_T38 x0 x11).f0) = x7 then (ferrulelaw20_circles.l2 k x0 x4 x5 x6 x7 x8 x9 ((rd_T38 x0 x11).f1) (wrap64 (x11 + 1))) else (ferrulelaw20_circles.l2 k x0 x4 x5 x6 x7 x8 x9 x10 (wrap64 (x11 + 1)))) else (none)) else (if x8 = true then (if 0 ≤ x6 then (if x6 < (x0.length : Int) then (if x10 = x7 then (if x7 = ((rd_T38 x0 x6).f0) then (if x7 > ((rd_T38 x0 x6).f0) then (ferrulelaw20_circles.l0 k x0 x4 (wrap64 (x5 + 1)) (wrap64 (x6 + 1))) else (ferrulelaw20_circles.l0 k x0 x4 x5 (wrap64 (x6 + 1)))) else (ferrulelaw20_circles.l0 k x0 x4 x5 (wrap64 (x6 + 1)))) else (ferrulelaw20_circles.l1 k x0 x4 x5 x6 x10 (decide (x7 > ((rd_T38 x0 x6).f0))) (wrap64 (x9 + 1)))) else (none)) else (none)) else (if x10 = x7 then (if 0 ≤ x6 then (if x6 < (x0.length : Int) then (if x7 = ((rd_T38 x0 x6).f0) then (ferrulelaw20_circles.l0 k x0 x4 x5 (wrap64 (x6 + 1))) else (ferrulelaw20_circles.l0 k x0 x4 x5 (wrap64 (x6 + 1)))) else (none)) else (none)) else (ferrulelaw20_circles.l1 k x0 x4 x5 x6 x10 false (wrap64 (x9 + 1)))))
end
def ferrulelaw20_circles.f (k : Nat) (l0 : List (S38)) : Option (Int × Int) := ferrulelaw20_circles.l0 k l0 0 0 0
theorem ferrulelaw20_circles.mono_l : ∀ k, (∀ y0 y1 y2 y3, LeO (ferrulelaw20_circles.l0 k y0 y1 y2 y3) (ferrulelaw20_circles.l0 (k + 1) y0 y1 y2 y3)) ∧ (∀ y0 y1 y2 y3 y4 y5 y6, LeO (ferrulelaw20_circles.l1 k y0 y1 y2 y3 y4 y5 y6) (ferrulelaw20_circles.l1 (k + 1) y0 y1 y2 y3 y4 y5 y6)) ∧ (∀ y0 y1 y2 y3 y4 y5 y6 y7, LeO (ferrulelaw20_circles.j2 k y0 y1 y2 y3 y4 y5 y6 y7) (ferrulelaw20_circles.j2 (k + 1) y0 y1 y2 y3 y4 y5 y6 y7)) ∧ (∀ y0 y1 y2 y3 y4 y5 y6 y7 y8, LeO (ferrulelaw20_circles.l2 k y0 y1 y2 y3 y4 y5 y6 y7 y8) (ferrulelaw20_circles.l2 (k + 1) y0 y1 y2 y3 y4 y5 y6 y7 y8))
  | 0 => ⟨fun _ _ _ _ r h => by simp [ferrulelaw20_circles.l0] at h, fun _ _ _ _ _ _ _ r h => by simp [ferrulelaw20_circles.l1] at h, fun _ _ _ _ _ _ _ _ r h => by simp [ferrulelaw20_circles.j2] at h, fun _ _ _ _ _ _ _ _ _ r h => by simp [ferrulelaw20_circles.l2] at h⟩
  | k + 1 => by
    obtain ⟨ih0, ih1, ih2, ih3⟩ := ferrulelaw20_circles.mono_l k
    refine ⟨?_, ?_, ?_, ?_⟩
    · intro y0 y1 y2 y3
      unfold ferrulelaw20_circles.l0
      repeat' first
      | (with_reducible exact ih0 _ _ _ _)
      | (with_reducible exact ih1 _ _ _ _ _ _ _)
      | (with_reducible exact ih2 _ _ _ _ _ _ _ _)
      | (with_reducible exact ih3 _ _ _ _ _ _ _ _ _)
      | (with_reducible exact LeO.refl _)
      | (with_reducible exact LeO.none _)
      | (with_reducible refine LeO.ite ?_ ?_)
      | (with_reducible refine LeO.bind ?_ (fun _ => ?_))
      | exact ih0 _ _ _ _
      | exact ih1 _ _ _ _ _ _ _
      | exact ih2 _ _ _ _ _ _ _ _
      | exact ih3 _ _ _ _ _ _ _ _ _
      | exact LeO.none _
      | refine LeO.ite ?_ ?_
      | refine LeO.bind ?_ (fun _ => ?_)
    · intro y0 y1 y2 y3 y4 y5 y6
      unfold ferrulelaw20_circles.l1
      repeat' first
      | (with_reducible exact ih0 _ _ _ _)
      | (with_reducible exact ih1 _ _ _ _ _ _ _)
      | (with_reducible exact ih2 _ _ _ _ _ _ _ _)
      | (with_reducible exact ih3 _ _ _ _ _ _ _ _ _)
      | (with_reducible exact LeO.refl _)
      | (with_reducible exact LeO.none _)
      | (with_reducible refine LeO.ite ?_ ?_)
      | (with_reducible refine LeO.bind ?_ (fun _ => ?_))
      | exact ih0 _ _ _ _
      | exact ih1 _ _ _ _ _ _ _
      | exact ih2 _ _ _ _ _ _ _ _
      | exact ih3 _ _ _ _ _ _ _ _ _
      | exact LeO.none _
      | refine LeO.ite ?_ ?_
      | refine LeO.bind ?_ (fun _ => ?_)
    · intro y0 y1 y2 y3 y4 y5 y6 y7
      unfold ferrulelaw20_circles.j2
      repeat' first
      | (with_reducible exact ih0 _ _ _ _)
      | (with_reducible exact ih1 _ _ _ _ _ _ _)
      | (with_reducible exact ih2 _ _ _ _ _ _ _ _)
      | (with_reducible exact ih3 _ _ _ _ _ _ _ _ _)
      | (with_reducible exact LeO.refl _)
      | (with_reducible exact LeO.none _)
      | (with_reducible refine LeO.ite ?_ ?_)
      | (with_reducible refine LeO.bind ?_ (fun _ => ?_))
      | exact ih0 _ _ _ _
      | exact ih1 _ _ _ _ _ _ _
      | exact ih2 _ _ _ _ _ _ _ _
      | exact ih3 _ _ _ _ _ _ _ _ _
      | exact LeO.none _
      | refine LeO.ite ?_ ?_
      | refine LeO.bind ?_ (fun _ => ?_)
    · intro y0 y1 y2 y3 y4 y5 y6 y7 y8
      unfold ferrulelaw20_circles.l2
      repeat' first
      | (with_reducible exact ih0 _ _ _ _)
      | (with_reducible exact ih1 _ _ _ _ _ _ _)
      | (with_reducible exact ih2 _ _ _ _ _ _ _ _)
      | (with_reducible exact ih3 _ _ _ _ _ _ _ _ _)
      | (with_reducible exact LeO.refl _)
      | (with_reducible exact LeO.none _)
      | (with_reducible refine LeO.ite ?_ ?_)
      | (with_reducible refine LeO.bind ?_ (fun _ => ?_))
      | exact ih0 _ _ _ _
      | exact ih1 _ _ _ _ _ _ _
      | exact ih2 _ _ _ _ _ _ _ _
      | exact ih3 _ _ _ _ _ _ _ _ _
      | exact LeO.none _
      | refine LeO.ite ?_ ?_
      | refine LeO.bind ?_ (fun _ => ?_)
theorem ferrulelaw20_circles.mono : ∀ a0 k, LeO (ferrulelaw20_circles.f k a0) (ferrulelaw20_circles.f (k + 1) a0) := by
  intro a0 k
  obtain ⟨ih0, ih1, ih2, ih3⟩ := ferrulelaw20_circles.mono_l k
  unfold ferrulelaw20_circles.f
  repeat' first
      | (with_reducible exact ih0 _ _ _ _)
      | (with_reducible exact ih1 _ _ _ _ _ _ _)
      | (with_reducible exact ih2 _ _ _ _ _ _ _ _)
      | (with_reducible exact ih3 _ _ _ _ _ _ _ _ _)
      | (with_reducible exact LeO.refl _)
      | (with_reducible exact LeO.none _)
      | (with_reducible refine LeO.ite ?_ ?_)
      | (with_reducible refine LeO.bind ?_ (fun _ => ?_))
      | exact ih0 _ _ _ _
      | exact ih1 _ _ _ _ _ _ _
      | exact ih2 _ _ _ _ _ _ _ _
      | exact ih3 _ _ _ _ _ _ _ _ _
      | exact LeO.none _
      | refine LeO.ite ?_ ?_
      | refine LeO.bind ?_ (fun _ => ?_)
set_option maxHeartbeats 8000000 in
set_option maxRecDepth 100000 in
theorem ferrulelaw20_circles.calls (k : Nat) (A0 : Option Addr) (c0 : Nat) (l0 : List (S38)) (r1 : Int) (r2 : Int) (w : World) (hr0 : Kd.C k38 w A0 l0.length l0) (hc0 : l0.length ≤ c0) (h : ferrulelaw20_circles.f k l0 = some (r1, r2)) :
    Calls Try.prog 16 #[.slice A0 l0.length c0] w fun e w' => e = .returned (.tuple #[.int .i64 r1, .int .i64 r2]) ∧ Drawn0 w w' := by
  have HR0 := Aside0.mk hr0
  have HC0 := Aside0.mk hc0
  clear hr0 hc0
  have H : (ferrulelaw20_circles.l0 k l0 0 0 0) = some (r1, r2) := h
  clear h
  have H' := Aside0.mk H
  clear H
  go_enter Try.func16, Try.ntmps16
  go_wp2
  repeat (go_quiet (fail); try go_wp2)
  go_loopg [4, 5, 6] k (fun kq v4 v5 v6 w' => ∃ (x4_1 : Int) (x5_1 : Int) (x6_1 : Int), v4 = .int .i64 x4_1 ∧ v5 = .int .i64 x5_1 ∧ v6 = .int .i64 x6_1 ∧ Aside0 (ferrulelaw20_circles.l0 kq l0 x4_1 x5_1 x6_1 = some (r1, r2)) ∧ Aside0 (kq ≤ k) ∧ Drawn0 w w')
  case atStart => exact ⟨(0), (0), (0), (by first | rfl | (simp; done) | (simp [*]; done)), (by first | rfl | (simp; done) | (simp [*]; done)), (by first | rfl | (simp; done) | (simp [*]; done)), H', ⟨Nat.le_refl _⟩, by repeat (first | exact Drawn0.refl _ | apply Drawn0.step)⟩
  case round =>
    clear H'
    try clear c1
    obtain ⟨x4_1, x5_1, x6_1, rfl, rfl, rfl, HA, HK1, ⟨m1, rfl⟩⟩ := hrel
    cases gk with
    | zero => exact absurd HA.out (by simp [ferrulelaw20_circles.l0])
    | succ k1 =>
      have H := HA.out
      clear HA
      simp only [ferrulelaw20_circles.l0] at H
      by_cases c2 : x6_1 < (l0.length : Int)
      · rw [if_pos c2] at H
        have c2b0 : decide (x6_1 < (l0.length : Int)) = true := decide_eq_true c2
        clear c2
        by_cases c3 : 0 ≤ x6_1
        · rw [if_pos c3] at H
          have c3b0 : decide (0 ≤ x6_1) = true := decide_eq_true c3
          clear c3
          by_cases c4 : ((rd_T38 l0 x6_1).f0) = ((rd_T38 l0 x6_1).f1)
          · rw [if_pos c4] at H
            have c4b0 : (((rd_T38 l0 x6_1).f0) == ((rd_T38 l0 x6_1).f1)) = true := beq_iff_eq.mpr c4
            have c4b1 : (((rd_T38 l0 x6_1).f0) != ((rd_T38 l0 x6_1).f1)) = false := bne_eq_false_iff_eq.mpr c4
            clear c4
            have H' := Aside0.mk H
            clear H
            have p149 : 0 ≤ (x6_1 : Int) := of_decide_eq_true (by first | (with_reducible assumption) | assumption)
            have q149 : x6_1 < (l0.length : Int) := of_decide_eq_true (by first | (with_reducible assumption) | assumption)
            obtain ⟨ad149, e149, hx149_0, hx149_1⟩ := at_T38 HR0.out x6_1 p149 q149
            cases e149
            replace p149 := eq_true p149
            replace q149 := eq_true q149
            have p150 : 0 ≤ (x6_1 : Int) := of_decide_eq_true (by first | (with_reducible assumption) | assumption)
            have q150 : x6_1 < (l0.length : Int) := of_decide_eq_true (by first | (with_reducible assumption) | assumption)
            obtain ⟨ad150, e150, hx150_0, hx150_1⟩ := at_T38 HR0.out x6_1 p150 q150
            obtain rfl : ad149 = ad150 := (by injection e150)
            replace p150 := eq_true p150
            replace q150 := eq_true q150
            go_wp2
            repeat (go_quiet (fail); try go_wp2)
            go_roundg k1
            case measure => have := HK1.out; omega
            case rel => exact ⟨(x4_1), (x5_1), (wrap64 (x6_1 + 1)), (by first | rfl | (simp; done) | (simp [*]; done)), (by first | rfl | (simp; done) | (simp [*]; done)), (by first | rfl | (simp; done) | (simp [*]; done)), H', ⟨by have := HK1.out; omega⟩, by repeat (first | exact Drawn0.refl _ | apply Drawn0.step)⟩
          · rw [if_neg c4] at H
            have c4b0 : (((rd_T38 l0 x6_1).f0) == ((rd_T38 l0 x6_1).f1)) = false := beq_eq_false_iff_ne.mpr c4
            have c4b1 : (((rd_T38 l0 x6_1).f0) != ((rd_T38 l0 x6_1).f1)) = true := bne_iff_ne.mpr c4
            have H' := Aside0.mk H
            clear H
            have p149 : 0 ≤ (x6_1 : Int) := of_decide_eq_true (by first | (with_reducible assumption) | assumption)
            have q149 : x6_1 < (l0.length : Int) := of_decide_eq_true (by first | (with_reducible assumption) | assumption)
            obtain ⟨ad149, e149, hx149_0, hx149_1⟩ := at_T38 HR0.out x6_1 p149 q149
            cases e149
            replace p149 := eq_true p149
            replace q149 := eq_true q149
            have p150 : 0 ≤ (x6_1 : Int) := of_decide_eq_true (by first | (with_reducible assumption) | assumption)
            have q150 : x6_1 < (l0.length : Int) := of_decide_eq_true (by first | (with_reducible assumption) | assumption)
            obtain ⟨ad150, e150, hx150_0, hx150_1⟩ := at_T38 HR0.out x6_1 p150 q150
            obtain rfl : ad149 = ad150 := (by injection e150)
            replace p150 := eq_true p150
            replace q150 := eq_true q150
            have p151 : 0 ≤ (x6_1 : Int) := of_decide_eq_true (by first | (with_reducible assumption) | assumption)
            have q151 : x6_1 < (l0.length : Int) := of_decide_eq_true (by first | (with_reducible assumption) | assumption)
            obtain ⟨ad151, e151, hx151_0, hx151_1⟩ := at_T38 HR0.out x6_1 p151 q151
            obtain rfl : ad149 = ad151 := (by injection e151)
            replace p151 := eq_true p151
            replace q151 := eq_true q151
            go_wp2
            repeat (go_quiet (fail); try go_wp2)
            go_loopg [7, 8, 9] k1 (fun kq v7 v8 v9 w' => ∃ (x7_2 : Int) (x8_2 : Bool) (x9_2 : Int), v7 = .int .i64 x7_2 ∧ v8 = .bool x8_2 ∧ v9 = .int .i64 x9_2 ∧ Aside0 (ferrulelaw20_circles.l1 kq l0 (wrap64 (x4_1 + 1)) x5_1 x6_1 x7_2 x8_2 x9_2 = some (r1, r2)) ∧ Aside0 (kq ≤ k1) ∧ Drawn0 w w')
            case atStart => exact ⟨((rd_T38 l0 x6_1).f1), (true), (0), (by first | rfl | (simp; done) | (simp [*]; done)), (by first | rfl | (simp; done) | (simp [*]; done)), (by first | rfl | (simp; done) | (simp [*]; done)), H', ⟨Nat.le_refl _⟩, by repeat (first | exact Drawn0.refl _ | apply Drawn0.step)⟩
            case round =>
              clear H'
              try clear c1
              try clear p1
              try clear q1
              try clear hx1
              try clear c2
              try clear c2b0
              try clear p2
              try clear c3
              try clear c3b0
              try clear c4
              try clear c4b0
              try clear c4b1
              try clear hx149_0
              try clear hx149_1
              try clear hx150_0
              try clear hx150_1
              try clear hx151_0
              try clear hx151_1
              try clear p149
              try clear p150
              try clear p151
              try clear q149
              try clear q150
              try clear q151
              obtain ⟨x7_2, x8_2, x9_2, rfl, rfl, rfl, HA, HK2, ⟨m2, rfl⟩⟩ := hrel
              cases gk with
              | zero => exact absurd HA.out (by simp [ferrulelaw20_circles.l1])
              | succ k2 =>
                have H := HA.out
                clear HA
                simp only [ferrulelaw20_circles.l1] at H
                have HC5 := Aside0.mk H
                clear H
                go_upto_region 10 with (fail)
                repeat (go_quiet (fail); go_upto_region 10 with (fail))
                go_cut [48] (fun v48 wc => ∃ (kq : Nat) (x48_4 : Bool), v48 = .bool x48_4 ∧ Aside0 (ferrulelaw20_circles.j2 kq l0 (wrap64 (x4_1 + 1)) x5_1 x6_1 x7_2 x8_2 x9_2 x48_4 = some (r1, r2)) ∧ Aside0 (kq ≤ k2) ∧ Drawn0 w wc)
                case first =>
                  have H := HC5.out
                  clear HC5
                  by_cases c6 : x9_2 < (l0.length : Int)
                  · rw [if_pos c6] at H
                    have c6b0 : decide (x9_2 < (l0.length : Int)) = true := decide_eq_true c6
                    clear c6
                    (first | rw [c6b0] | (simp only [i64_w, i32_w]; rw [c6b0]) | skip)
                    by_cases c7 : 0 ≤ x6_1
                    · rw [if_pos c7] at H
                      have c7b0 : decide (0 ≤ x6_1) = true := decide_eq_true c7
                      clear c7
                      by_cases c8 : x6_1 < (l0.length : Int)
                      · rw [if_pos c8] at H
                        have c8b0 : decide (x6_1 < (l0.length : Int)) = true := decide_eq_true c8
                        clear c8
                        have H' := Aside0.mk H
                        clear H
                        have p152 : 0 ≤ (x6_1 : Int) := of_decide_eq_true (by first | (with_reducible assumption) | assumption)
                        have q152 : x6_1 < (l0.length : Int) := of_decide_eq_true (by first | (with_reducible assumption) | assumption)
                        obtain ⟨ad152, e152, hx152_0, hx152_1⟩ := at_T38 HR0.out x6_1 p152 q152
                        obtain rfl : ad149 = ad152 := (by injection e152)
                        replace p152 := eq_true p152
                        replace q152 := eq_true q152
                        go_wp2
                        repeat (go_quiet (fail); try go_wp2)
                        go_meet
                        case rel => exact ⟨_, ((x7_2 != ((rd_T38 l0 x6_1).f0))), (by first | rfl | (simp; done) | (simp [*]; done)), H', ⟨by have := HK1.out; have := HK2.out; first | omega | exact Nat.le_refl _⟩, by repeat (first | exact Drawn0.refl _ | apply Drawn0.step)⟩
                      · rw [if_neg c8] at H
                        exact absurd H (by simp)
                    · rw [if_neg c7] at H
                      exact absurd H (by simp)
                  · rw [if_neg c6] at H
                    have c6b0 : decide (x9_2 < (l0.length : Int)) = false := decide_eq_false c6
                    clear c6
                    (first | rw [c6b0] | (simp only [i64_w, i32_w]; rw [c6b0]) | skip)
                    have H' := Aside0.mk H
                    clear H
                    go_wp2
                    repeat (go_quiet (fail); try go_wp2)
                    go_meet
                    case rel => exact ⟨_, (false), (by first | rfl | (simp; done) | (simp [*]; done)), H', ⟨by have := HK1.out; have := HK2.out; first | omega | exact Nat.le_refl _⟩, by repeat (first | exact Drawn0.refl _ | apply Drawn0.step)⟩
                case rest =>
                  clear HC5
                  try clear c1
                  try clear p1
                  try clear q1
                  try clear hx1
                  try clear c2
                  try clear c2b0
                  try clear p2
                  try clear c3
                  try clear c3b0
                  try clear c4
                  try clear c4b0
                  try clear c4b1
                  try clear c6
                  try clear c6b0
                  try clear p6
                  try clear c7
                  try clear c7b0
                  try clear c8
                  try clear c8b0
                  try clear hx149_0
                  try clear hx149_1
                  try clear hx150_0
                  try clear hx150_1
                  try clear hx151_0
                  try clear hx151_1
                  try clear hx152_0
                  try clear hx152_1
                  try clear p1
                  try clear p149
                  try clear p150
                  try clear p151
                  try clear p152
                  try clear p2
                  try clear q1
                  try clear q149
                  try clear q150
                  try clear q151
                  try clear q152
                  obtain ⟨kq, x48_4, rfl, HA, HJ4, ⟨mc4, rfl⟩⟩ := hcut
                  cases kq with
                  | zero => exact absurd HA.out (by simp [ferrulelaw20_circles.j2])
                  | succ kj4 =>
                    have H := HA.out
                    clear HA
                    simp only [ferrulelaw20_circles.j2] at H
                    by_cases c9 : x48_4 = true
                    · subst c9
                      have H1 : (ferrulelaw20_circles.l2 kj4 l0 (wrap64 (x4_1 + 1)) x5_1 x6_1 x7_2 x8_2 x9_2 x7_2 0) = some (r1, r2) := by rw [if_pos rfl] at H; exact H
                      clear H
                      have H := H1
                      clear H1
                      have H' := Aside0.mk H
                      clear H
                      go_wp2
                      repeat (go_quiet (fail); try go_wp2)
                      go_loopg [10, 11] kj4 (fun kq v10 v11 w' => ∃ (x10_4 : Int) (x11_4 : Int), v10 = .int .i64 x10_4 ∧ v11 = .int .i64 x11_4 ∧ Aside0 (ferrulelaw20_circles.l2 kq l0 (wrap64 (x4_1 + 1)) x5_1 x6_1 x7_2 x8_2 x9_2 x10_4 x11_4 = some (r1, r2)) ∧ Aside0 (kq ≤ kj4) ∧ Drawn0 w w')
                      case atStart => exact ⟨(x7_2), (0), (by first | rfl | (simp; done) | (simp [*]; done)), (by first | rfl | (simp; done) | (simp [*]; done)), H', ⟨Nat.le_refl _⟩, by repeat (first | exact Drawn0.refl _ | apply Drawn0.step)⟩
                      case round =>
                        clear H'
                        try clear c1
                        try clear p1
                        try clear q1
                        try clear hx1
                        try clear c2
                        try clear c2b0
                        try clear p2
                        try clear c3
                        try clear c3b0
                        try clear c4
                        try clear c4b0
                        try clear c4b1
                        try clear c6
                        try clear c6b0
                        try clear p6
                        try clear c7
                        try clear c7b0
                        try clear c8
                        try clear c8b0
                        try clear c9
                        try clear hx149_0
                        try clear hx149_1
                        try clear hx150_0
                        try clear hx150_1
                        try clear hx151_0
                        try clear hx151_1
                        try clear hx152_0
                        try clear hx152_1
                        try clear p1
                        try clear p149
                        try clear p150
                        try clear p151
                        try clear p152
                        try clear p2
                        try clear p6
                        try clear q1
                        try clear q149
                        try clear q150
                        try clear q151
                        try clear q152
                        obtain ⟨x10_4, x11_4, rfl, rfl, HA, HK4, ⟨m4, rfl⟩⟩ := hrel
                        cases gk with
                        | zero => exact absurd HA.out (by simp [ferrulelaw20_circles.l2])
                        | succ k4 =>
                          have H := HA.out
                          clear HA
                          simp only [ferrulelaw20_circles.l2] at H
                          by_cases c10 : x11_4 < (l0.length : Int)
                          · rw [if_pos c10] at H
                            have c10b0 : decide (x11_4 < (l0.length : Int)) = true := decide_eq_true c10
                            clear c10
                            by_cases c11 : 0 ≤ x11_4
                            · rw [if_pos c11] at H
                              have c11b0 : decide (0 ≤ x11_4) = true := decide_eq_true c11
                              clear c11
                              by_cases c12 : ((rd_T38 l0 x11_4).f0) = x7_2
                              · rw [if_pos c12] at H
                                have c12b0 : (((rd_T38 l0 x11_4).f0) == x7_2) = true := beq_iff_eq.mpr c12
                                have c12b1 : (((rd_T38 l0 x11_4).f0) != x7_2) = false := bne_eq_false_iff_eq.mpr c12
                                clear c12
                                have H' := Aside0.mk H
                                clear H
                                have p154 : 0 ≤ (x11_4 : Int) := of_decide_eq_true (by first | (with_reducible assumption) | assumption)
                                have q154 : x11_4 < (l0.length : Int) := of_decide_eq_true (by first | (with_reducible assumption) | assumption)
                                obtain ⟨ad154, e154, hx154_0, hx154_1⟩ := at_T38 HR0.out x11_4 p154 q154
                                obtain rfl : ad149 = ad154 := (by injection e154)
                                replace p154 := eq_true p154
                                replace q154 := eq_true q154
                                have p155 : 0 ≤ (x11_4 : Int) := of_decide_eq_true (by first | (with_reducible assumption) | assumption)
                                have q155 : x11_4 < (l0.length : Int) := of_decide_eq_true (by first | (with_reducible assumption) | assumption)
                                obtain ⟨ad155, e155, hx155_0, hx155_1⟩ := at_T38 HR0.out x11_4 p155 q155
                                obtain rfl : ad149 = ad155 := (by injection e155)
                                replace p155 := eq_true p155
                                replace q155 := eq_true q155
                                go_wp2
                                repeat (go_quiet (fail); try go_wp2)
                                go_roundg k4
                                case measure => have := HK1.out; have := HK2.out; have := HJ4.out; have := HK4.out; omega
                                case rel => exact ⟨((rd_T38 l0 x11_4).f1), (wrap64 (x11_4 + 1)), (by first | rfl | (simp; done) | (simp [*]; done)), (by first | rfl | (simp; done) | (simp [*]; done)), H', ⟨by have := HK1.out; have := HK2.out; have := HJ4.out; have := HK4.out; omega⟩, by repeat (first | exact Drawn0.refl _ | apply Drawn0.step)⟩
                              · rw [if_neg c12] at H
                                have c12b0 : (((rd_T38 l0 x11_4).f0) == x7_2) = false := beq_eq_false_iff_ne.mpr c12
                                have c12b1 : (((rd_T38 l0 x11_4).f0) != x7_2) = true := bne_iff_ne.mpr c12
                                have H' := Aside0.mk H
                                clear H
                                have p154 : 0 ≤ (x11_4 : Int) := of_decide_eq_true (by first | (with_reducible assumption) | assumption)
                                have q154 : x11_4 < (l0.length : Int) := of_decide_eq_true (by first | (with_reducible assumption) | assumption)
                                obtain ⟨ad154, e154, hx154_0, hx154_1⟩ := at_T38 HR0.out x11_4 p154 q154
                                obtain rfl : ad149 = ad154 := (by injection e154)
                                replace p154 := eq_true p154
                                replace q154 := eq_true q154
                                go_wp2
                                repeat (go_quiet (fail); try go_wp2)
                                go_roundg k4
                                case measure => have := HK1.out; have := HK2.out; have := HJ4.out; have := HK4.out; omega
                                case rel => exact ⟨(x10_4), (wrap64 (x11_4 + 1)), (by first | rfl | (simp; done) | (simp [*]; done)), (by first | rfl | (simp; done) | (simp [*]; done)), H', ⟨by have := HK1.out; have := HK2.out; have := HJ4.out; have := HK4.out; omega⟩, by repeat (first | exact Drawn0.refl _ | apply Drawn0.step)⟩
                            · rw [if_neg c11] at H
                              exact absurd H (by simp)
                          · rw [if_neg c10] at H
                            have c10b0 : decide (x11_4 < (l0.length : Int)) = false := decide_eq_false c10
                            clear c10
                            by_cases c13 : x8_2 = true
                            · subst c13
                              have H1 : (if 0 ≤ x6_1 then (if x6_1 < (l0.length : Int) then (if x10_4 = x7_2 then (if x7_2 = ((rd_T38 l0 x6_1).f0) then (if x7_2 > ((rd_T38 l0 x6_1).f0) then (ferrulelaw20_circles.l0 k4 l0 (wrap64 (x4_1 + 1)) (wrap64 (x5_1 + 1)) (wrap64 (x6_1 + 1))) else (ferrulelaw20_circles.l0 k4 l0 (wrap64 (x4_1 + 1)) x5_1 (wrap64 (x6_1 + 1)))) else (ferrulelaw20_circles.l0 k4 l0 (wrap64 (x4_1 + 1)) x5_1 (wrap64 (x6_1 + 1)))) else (ferrulelaw20_circles.l1 k4 l0 (wrap64 (x4_1 + 1)) x5_1 x6_1 x10_4 (decide (x7_2 > ((rd_T38 l0 x6_1).f0))) (wrap64 (x9_2 + 1)))) else (none)) else (none)) = some (r1, r2) := by rw [if_pos rfl] at H; exact H
                              clear H
                              have H := H1
                              clear H1
                              by_cases c14 : 0 ≤ x6_1
                              · rw [if_pos c14] at H
                                have c14b0 : decide (0 ≤ x6_1) = true := decide_eq_true c14
                                clear c14
                                by_cases c15 : x6_1 < (l0.length : Int)
                                · rw [if_pos c15] at H
                                  have c15b0 : decide (x6_1 < (l0.length : Int)) = true := decide_eq_true c15
                                  clear c15
                                  by_cases c16 : x10_4 = x7_2
                                  · rw [if_pos c16] at H
                                    have c16b0 : (x10_4 == x7_2) = true := beq_iff_eq.mpr c16
                                    have c16b1 : (x10_4 != x7_2) = false := bne_eq_false_iff_eq.mpr c16
                                    clear c16
                                    by_cases c17 : x7_2 = ((rd_T38 l0 x6_1).f0)
                                    · rw [if_pos c17] at H
                                      have c17b0 : (x7_2 == ((rd_T38 l0 x6_1).f0)) = true := beq_iff_eq.mpr c17
                                      have c17b1 : (x7_2 != ((rd_T38 l0 x6_1).f0)) = false := bne_eq_false_iff_eq.mpr c17
                                      clear c17
                                      by_cases c18 : x7_2 > ((rd_T38 l0 x6_1).f0)
                                      · rw [if_pos c18] at H
                                        have c18b0 : decide (((rd_T38 l0 x6_1).f0) < x7_2) = true := decide_eq_true c18
                                        clear c18
                                        have H' := Aside0.mk H
                                        clear H
                                        have p156 : 0 ≤ (x6_1 : Int) := of_decide_eq_true (by first | (with_reducible assumption) | assumption)
                                        have q156 : x6_1 < (l0.length : Int) := of_decide_eq_true (by first | (with_reducible assumption) | assumption)
                                        obtain ⟨ad156, e156, hx156_0, hx156_1⟩ := at_T38 HR0.out x6_1 p156 q156
                                        obtain rfl : ad149 = ad156 := (by injection e156)
                                        replace p156 := eq_true p156
                                        replace q156 := eq_true q156
                                        have p157 : 0 ≤ (x6_1 : Int) := of_decide_eq_true (by first | (with_reducible assumption) | assumption)
                                        have q157 : x6_1 < (l0.length : Int) := of_decide_eq_true (by first | (with_reducible assumption) | assumption)
                                        obtain ⟨ad157, e157, hx157_0, hx157_1⟩ := at_T38 HR0.out x6_1 p157 q157
                                        obtain rfl : ad149 = ad157 := (by injection e157)
                                        replace p157 := eq_true p157
                                        replace q157 := eq_true q157
                                        go_wp2
                                        repeat (go_quiet (fail); try go_wp2)
                                        go_roundg k4
                                        case measure => have := HK1.out; have := HK2.out; have := HJ4.out; have := HK4.out; omega
                                        case rel => exact ⟨((wrap64 (x4_1 + 1))), (wrap64 (x5_1 + 1)), (wrap64 (x6_1 + 1)), (by first | rfl | (simp; done) | (simp [*]; done)), (by first | rfl | (simp; done) | (simp [*]; done)), (by first | rfl | (simp; done) | (simp [*]; done)), H', ⟨by have := HK1.out; have := HK2.out; have := HJ4.out; have := HK4.out; omega⟩, by repeat (first | exact Drawn0.refl _ | apply Drawn0.step)⟩
                                      · rw [if_neg c18] at H
                                        have c18b0 : decide (((rd_T38 l0 x6_1).f0) < x7_2) = false := decide_eq_false c18
                                        clear c18
                                        have H' := Aside0.mk H
                                        clear H
                                        have p156 : 0 ≤ (x6_1 : Int) := of_decide_eq_true (by first | (with_reducible assumption) | assumption)
                                        have q156 : x6_1 < (l0.length : Int) := of_decide_eq_true (by first | (with_reducible assumption) | assumption)
                                        obtain ⟨ad156, e156, hx156_0, hx156_1⟩ := at_T38 HR0.out x6_1 p156 q156
                                        obtain rfl : ad149 = ad156 := (by injection e156)
                                        replace p156 := eq_true p156
                                        replace q156 := eq_true q156
                                        have p157 : 0 ≤ (x6_1 : Int) := of_decide_eq_true (by first | (with_reducible assumption) | assumption)
                                        have q157 : x6_1 < (l0.length : Int) := of_decide_eq_true (by first | (with_reducible assumption) | assumption)
                                        obtain ⟨ad157, e157, hx157_0, hx157_1⟩ := at_T38 HR0.out x6_1 p157 q157
                                        obtain rfl : ad149 = ad157 := (by injection e157)
                                        replace p157 := eq_true p157
                                        replace q157 := eq_true q157
                                        go_wp2
                                        repeat (go_quiet (fail); try go_wp2)
                                        go_roundg k4
                                        case measure => have := HK1.out; have := HK2.out; have := HJ4.out; have := HK4.out; omega
                                        case rel => exact ⟨((wrap64 (x4_1 + 1))), (x5_1), (wrap64 (x6_1 + 1)), (by first | rfl | (simp; done) | (simp [*]; done)), (by first | rfl | (simp; done) | (simp [*]; done)), (by first | rfl | (simp; done) | (simp [*]; done)), H', ⟨by have := HK1.out; have := HK2.out; have := HJ4.out; have := HK4.out; omega⟩, by repeat (first | exact Drawn0.refl _ | apply Drawn0.step)⟩
                                    · rw [if_neg c17] at H
                                      have c17b0 : (x7_2 == ((rd_T38 l0 x6_1).f0)) = false := beq_eq_false_iff_ne.mpr c17
                                      have c17b1 : (x7_2 != ((rd_T38 l0 x6_1).f0)) = true := bne_iff_ne.mpr c17
                                      have H' := Aside0.mk H
                                      clear H
                                      have p156 : 0 ≤ (x6_1 : Int) := of_decide_eq_true (by first | (with_reducible assumption) | assumption)
                                      have q156 : x6_1 < (l0.length : Int) := of_decide_eq_true (by first | (with_reducible assumption) | assumption)
                                      obtain ⟨ad156, e156, hx156_0, hx156_1⟩ := at_T38 HR0.out x6_1 p156 q156
                                      obtain rfl : ad149 = ad156 := (by injection e156)
                                      replace p156 := eq_true p156
                                      replace q156 := eq_true q156
                                      have p157 : 0 ≤ (x6_1 : Int) := of_decide_eq_true (by first | (with_reducible assumption) | assumption)
                                      have q157 : x6_1 < (l0.length : Int) := of_decide_eq_true (by first | (with_reducible assumption) | assumption)
                                      obtain ⟨ad157, e157, hx157_0, hx157_1⟩ := at_T38 HR0.out x6_1 p157 q157
                                      obtain rfl : ad149 = ad157 := (by injection e157)
                                      replace p157 := eq_true p157
                                      replace q157 := eq_true q157
                                      go_wp2
                                      repeat (go_quiet (fail); try go_wp2)
                                      go_roundg k4
                                      case measure => have := HK1.out; have := HK2.out; have := HJ4.out; have := HK4.out; omega
                                      case rel => exact ⟨((wrap64 (x4_1 + 1))), (x5_1), (wrap64 (x6_1 + 1)), (by first | rfl | (simp; done) | (simp [*]; done)), (by first | rfl | (simp; done) | (simp [*]; done)), (by first | rfl | (simp; done) | (simp [*]; done)), H', ⟨by have := HK1.out; have := HK2.out; have := HJ4.out; have := HK4.out; omega⟩, by repeat (first | exact Drawn0.refl _ | apply Drawn0.step)⟩
                                  · rw [if_neg c16] at H
                                    have c16b0 : (x10_4 == x7_2) = false := beq_eq_false_iff_ne.mpr c16
                                    have c16b1 : (x10_4 != x7_2) = true := bne_iff_ne.mpr c16
                                    have H' := Aside0.mk H
                                    clear H
                                    have p156 : 0 ≤ (x6_1 : Int) := of_decide_eq_true (by first | (with_reducible assumption) | assumption)
                                    have q156 : x6_1 < (l0.length : Int) := of_decide_eq_true (by first | (with_reducible assumption) | assumption)
                                    obtain ⟨ad156, e156, hx156_0, hx156_1⟩ := at_T38 HR0.out x6_1 p156 q156
                                    obtain rfl : ad149 = ad156 := (by injection e156)
                                    replace p156 := eq_true p156
                                    replace q156 := eq_true q156
                                    go_wp2
                                    repeat (go_quiet (fail); try go_wp2)
                                    go_roundg k4
                                    case measure => have := HK1.out; have := HK2.out; have := HJ4.out; have := HK4.out; omega
                                    case rel => exact ⟨(x10_4), (decide (x7_2 > ((rd_T38 l0 x6_1).f0))), (wrap64 (x9_2 + 1)), (by first | rfl | (simp; done) | (simp [*]; done)), (by first | rfl | (simp; done) | (simp [*]; done)), (by first | rfl | (simp; done) | (simp [*]; done)), H', ⟨by have := HK1.out; have := HK2.out; have := HJ4.out; have := HK4.out; omega⟩, by repeat (first | exact Drawn0.refl _ | apply Drawn0.step)⟩
                                · rw [if_neg c15] at H
                                  exact absurd H (by simp)
                              · rw [if_neg c14] at H
                                exact absurd H (by simp)
                            · replace c13 := Bool.eq_false_iff.mpr c13
                              subst c13
                              have H1 : (if x10_4 = x7_2 then (if 0 ≤ x6_1 then (if x6_1 < (l0.length : Int) then (if x7_2 = ((rd_T38 l0 x6_1).f0) then (ferrulelaw20_circles.l0 k4 l0 (wrap64 (x4_1 + 1)) x5_1 (wrap64 (x6_1 + 1))) else (ferrulelaw20_circles.l0 k4 l0 (wrap64 (x4_1 + 1)) x5_1 (wrap64 (x6_1 + 1)))) else (none)) else (none)) else (ferrulelaw20_circles.l1 k4 l0 (wrap64 (x4_1 + 1)) x5_1 x6_1 x10_4 false (wrap64 (x9_2 + 1)))) = some (r1, r2) := by rw [if_neg (show ¬ (false = true) by decide)] at H; exact H
                              clear H
                              have H := H1
                              clear H1
                              by_cases c19 : x10_4 = x7_2
                              · rw [if_pos c19] at H
                                have c19b0 : (x10_4 == x7_2) = true := beq_iff_eq.mpr c19
                                have c19b1 : (x10_4 != x7_2) = false := bne_eq_false_iff_eq.mpr c19
                                clear c19
                                by_cases c20 : 0 ≤ x6_1
                                · rw [if_pos c20] at H
                                  have c20b0 : decide (0 ≤ x6_1) = true := decide_eq_true c20
                                  clear c20
                                  by_cases c21 : x6_1 < (l0.length : Int)
                                  · rw [if_pos c21] at H
                                    have c21b0 : decide (x6_1 < (l0.length : Int)) = true := decide_eq_true c21
                                    clear c21
                                    by_cases c22 : x7_2 = ((rd_T38 l0 x6_1).f0)
                                    · rw [if_pos c22] at H
                                      have c22b0 : (x7_2 == ((rd_T38 l0 x6_1).f0)) = true := beq_iff_eq.mpr c22
                                      have c22b1 : (x7_2 != ((rd_T38 l0 x6_1).f0)) = false := bne_eq_false_iff_eq.mpr c22
                                      clear c22
                                      have H' := Aside0.mk H
                                      clear H
                                      have p158 : 0 ≤ (x6_1 : Int) := of_decide_eq_true (by first | (with_reducible assumption) | assumption)
                                      have q158 : x6_1 < (l0.length : Int) := of_decide_eq_true (by first | (with_reducible assumption) | assumption)
                                      obtain ⟨ad158, e158, hx158_0, hx158_1⟩ := at_T38 HR0.out x6_1 p158 q158
                                      obtain rfl : ad149 = ad158 := (by injection e158)
                                      replace p158 := eq_true p158
                                      replace q158 := eq_true q158
                                      go_wp2
                                      repeat (go_quiet (fail); try go_wp2)
                                      go_roundg k4
                                      case measure => have := HK1.out; have := HK2.out; have := HJ4.out; have := HK4.out; omega
                                      case rel => exact ⟨((wrap64 (x4_1 + 1))), (x5_1), (wrap64 (x6_1 + 1)), (by first | rfl | (simp; done) | (simp [*]; done)), (by first | rfl | (simp; done) | (simp [*]; done)), (by first | rfl | (simp; done) | (simp [*]; done)), H', ⟨by have := HK1.out; have := HK2.out; have := HJ4.out; have := HK4.out; omega⟩, by repeat (first | exact Drawn0.refl _ | apply Drawn0.step)⟩
                                    · rw [if_neg c22] at H
                                      have c22b0 : (x7_2 == ((rd_T38 l0 x6_1).f0)) = false := beq_eq_false_iff_ne.mpr c22
                                      have c22b1 : (x7_2 != ((rd_T38 l0 x6_1).f0)) = true := bne_iff_ne.mpr c22
                                      have H' := Aside0.mk H
                                      clear H
                                      have p158 : 0 ≤ (x6_1 : Int) := of_decide_eq_true (by first | (with_reducible assumption) | assumption)
                                      have q158 : x6_1 < (l0.length : Int) := of_decide_eq_true (by first | (with_reducible assumption) | assumption)
                                      obtain ⟨ad158, e158, hx158_0, hx158_1⟩ := at_T38 HR0.out x6_1 p158 q158
                                      obtain rfl : ad149 = ad158 := (by injection e158)
                                      replace p158 := eq_true p158
                                      replace q158 := eq_true q158
                                      go_wp2
                                      repeat (go_quiet (fail); try go_wp2)
                                      go_roundg k4
                                      case measure => have := HK1.out; have := HK2.out; have := HJ4.out; have := HK4.out; omega
                                      case rel => exact ⟨((wrap64 (x4_1 + 1))), (x5_1), (wrap64 (x6_1 + 1)), (by first | rfl | (simp; done) | (simp [*]; done)), (by first | rfl | (simp; done) | (simp [*]; done)), (by first | rfl | (simp; done) | (simp [*]; done)), H', ⟨by have := HK1.out; have := HK2.out; have := HJ4.out; have := HK4.out; omega⟩, by repeat (first | exact Drawn0.refl _ | apply Drawn0.step)⟩
                                  · rw [if_neg c21] at H
                                    exact absurd H (by simp)
                                · rw [if_neg c20] at H
                                  exact absurd H (by simp)
                              · rw [if_neg c19] at H
                                have c19b0 : (x10_4 == x7_2) = false := beq_eq_false_iff_ne.mpr c19
                                have c19b1 : (x10_4 != x7_2) = true := bne_iff_ne.mpr c19
                                have H' := Aside0.mk H
                                clear H
                                go_wp2
                                repeat (go_quiet (fail); try go_wp2)
                                go_roundg k4
                                case measure => have := HK1.out; have := HK2.out; have := HJ4.out; have := HK4.out; omega
                                case rel => exact ⟨(x10_4), (false), (wrap64 (x9_2 + 1)), (by first | rfl | (simp; done) | (simp [*]; done)), (by first | rfl | (simp; done) | (simp [*]; done)), (by first | rfl | (simp; done) | (simp [*]; done)), H', ⟨by have := HK1.out; have := HK2.out; have := HJ4.out; have := HK4.out; omega⟩, by repeat (first | exact Drawn0.refl _ | apply Drawn0.step)⟩
                    · replace c9 := Bool.eq_false_iff.mpr c9
                      subst c9
                      have H1 : (if 0 ≤ x6_1 then (if x6_1 < (l0.length : Int) then (if x7_2 = ((rd_T38 l0 x6_1).f0) then (if x8_2 = true then (ferrulelaw20_circles.l0 kj4 l0 (wrap64 (x4_1 + 1)) (wrap64 (x5_1 + 1)) (wrap64 (x6_1 + 1))) else (ferrulelaw20_circles.l0 kj4 l0 (wrap64 (x4_1 + 1)) x5_1 (wrap64 (x6_1 + 1)))) else (ferrulelaw20_circles.l0 kj4 l0 (wrap64 (x4_1 + 1)) x5_1 (wrap64 (x6_1 + 1)))) else (none)) else (none)) = some (r1, r2) := by rw [if_neg (show ¬ (false = true) by decide)] at H; exact H
                      clear H
                      have H := H1
                      clear H1
                      by_cases c23 : 0 ≤ x6_1
                      · rw [if_pos c23] at H
                        have c23b0 : decide (0 ≤ x6_1) = true := decide_eq_true c23
                        clear c23
                        by_cases c24 : x6_1 < (l0.length : Int)
                        · rw [if_pos c24] at H
                          have c24b0 : decide (x6_1 < (l0.length : Int)) = true := decide_eq_true c24
                          clear c24
                          by_cases c25 : x7_2 = ((rd_T38 l0 x6_1).f0)
                          · rw [if_pos c25] at H
                            have c25b0 : (x7_2 == ((rd_T38 l0 x6_1).f0)) = true := beq_iff_eq.mpr c25
                            have c25b1 : (x7_2 != ((rd_T38 l0 x6_1).f0)) = false := bne_eq_false_iff_eq.mpr c25
                            clear c25
                            by_cases c26 : x8_2 = true
                            · subst c26
                              have H1 : (ferrulelaw20_circles.l0 kj4 l0 (wrap64 (x4_1 + 1)) (wrap64 (x5_1 + 1)) (wrap64 (x6_1 + 1))) = some (r1, r2) := by rw [if_pos rfl] at H; exact H
                              clear H
                              have H := H1
                              clear H1
                              have H' := Aside0.mk H
                              clear H
                              have p153 : 0 ≤ (x6_1 : Int) := of_decide_eq_true (by first | (with_reducible assumption) | assumption)
                              have q153 : x6_1 < (l0.length : Int) := of_decide_eq_true (by first | (with_reducible assumption) | assumption)
                              obtain ⟨ad153, e153, hx153_0, hx153_1⟩ := at_T38 HR0.out x6_1 p153 q153
                              obtain rfl : ad149 = ad153 := (by injection e153)
                              replace p153 := eq_true p153
                              replace q153 := eq_true q153
                              go_wp2
                              repeat (go_quiet (fail); try go_wp2)
                              go_roundg kj4
                              case measure => have := HK1.out; have := HK2.out; have := HJ4.out; omega
                              case rel => exact ⟨((wrap64 (x4_1 + 1))), (wrap64 (x5_1 + 1)), (wrap64 (x6_1 + 1)), (by first | rfl | (simp; done) | (simp [*]; done)), (by first | rfl | (simp; done) | (simp [*]; done)), (by first | rfl | (simp; done) | (simp [*]; done)), H', ⟨by have := HK1.out; have := HK2.out; have := HJ4.out; omega⟩, by repeat (first | exact Drawn0.refl _ | apply Drawn0.step)⟩
                            · replace c26 := Bool.eq_false_iff.mpr c26
                              subst c26
                              have H1 : (ferrulelaw20_circles.l0 kj4 l0 (wrap64 (x4_1 + 1)) x5_1 (wrap64 (x6_1 + 1))) = some (r1, r2) := by rw [if_neg (show ¬ (false = true) by decide)] at H; exact H
                              clear H
                              have H := H1
                              clear H1
                              have H' := Aside0.mk H
                              clear H
                              have p153 : 0 ≤ (x6_1 : Int) := of_decide_eq_true (by first | (with_reducible assumption) | assumption)
                              have q153 : x6_1 < (l0.length : Int) := of_decide_eq_true (by first | (with_reducible assumption) | assumption)
                              obtain ⟨ad153, e153, hx153_0, hx153_1⟩ := at_T38 HR0.out x6_1 p153 q153
                              obtain rfl : ad149 = ad153 := (by injection e153)
                              replace p153 := eq_true p153
                              replace q153 := eq_true q153
                              go_wp2
                              repeat (go_quiet (fail); try go_wp2)
                              go_roundg kj4
                              case measure => have := HK1.out; have := HK2.out; have := HJ4.out; omega
                              case rel => exact ⟨((wrap64 (x4_1 + 1))), (x5_1), (wrap64 (x6_1 + 1)), (by first | rfl | (simp; done) | (simp [*]; done)), (by first | rfl | (simp; done) | (simp [*]; done)), (by first | rfl | (simp; done) | (simp [*]; done)), H', ⟨by have := HK1.out; have := HK2.out; have := HJ4.out; omega⟩, by repeat (first | exact Drawn0.refl _ | apply Drawn0.step)⟩
                          · rw [if_neg c25] at H
                            have c25b0 : (x7_2 == ((rd_T38 l0 x6_1).f0)) = false := beq_eq_false_iff_ne.mpr c25
                            have c25b1 : (x7_2 != ((rd_T38 l0 x6_1).f0)) = true := bne_iff_ne.mpr c25
                            have H' := Aside0.mk H
                            clear H
                            have p153 : 0 ≤ (x6_1 : Int) := of_decide_eq_true (by first | (with_reducible assumption) | assumption)
                            have q153 : x6_1 < (l0.length : Int) := of_decide_eq_true (by first | (with_reducible assumption) | assumption)
                            obtain ⟨ad153, e153, hx153_0, hx153_1⟩ := at_T38 HR0.out x6_1 p153 q153
                            obtain rfl : ad149 = ad153 := (by injection e153)
                            replace p153 := eq_true p153
                            replace q153 := eq_true q153
                            go_wp2
                            repeat (go_quiet (fail); try go_wp2)
                            go_roundg kj4
                            case measure => have := HK1.out; have := HK2.out; have := HJ4.out; omega
                            case rel => exact ⟨((wrap64 (x4_1 + 1))), (x5_1), (wrap64 (x6_1 + 1)), (by first | rfl | (simp; done) | (simp [*]; done)), (by first | rfl | (simp; done) | (simp [*]; done)), (by first | rfl | (simp; done) | (simp [*]; done)), H', ⟨by have := HK1.out; have := HK2.out; have := HJ4.out; omega⟩, by repeat (first | exact Drawn0.refl _ | apply Drawn0.step)⟩
                        · rw [if_neg c24] at H
                          exact absurd H (by simp)
                      · rw [if_neg c23] at H
                        exact absurd H (by simp)
        · rw [if_neg c3] at H
          exact absurd H (by simp)
      · rw [if_neg c2] at H
        have c2b0 : decide (x6_1 < (l0.length : Int)) = false := decide_eq_false c2
        clear c2
        simp only [Option.some.injEq, Prod.mk.injEq] at H
        obtain ⟨rfl, rfl⟩ := H
        go_wp2
        repeat (go_quiet (fail); try go_wp2)
        go_ret2
        exact ⟨by first | rfl | (simp; done) | (simp [*]; done), by repeat (first | exact Drawn0.refl _ | apply Drawn0.step)⟩

end Go.Proofs.Ytafjbebbmfihaaa.P
