-- Laid by a program of this session over the kit's print. Not trusted: Lean checks it.
import Derived.Test.YtafjbebbmfihaaaDoorPx0
import Derived.Test.YtafjbebbmfihaaaDoorHLex
import Derived.Test.YtafjbebbmfihaaaDoorHWord
namespace Go.Proofs.YtafjbebbmfihaaaDoor.P
open Go.RowKit Go.Proofs.YtafjbebbmfihaaaDoorW.PrintWords Go.Proofs.YtafjbebbmfihaaaDoorW.PrintLast Go.Proofs.YtafjbebbmfihaaaDoorW.PrintMore
attribute [local go_sem] max2_int min2_int max_two min_two max_three min_three max_four min_four   -- for this text's walks alone
set_option linter.unusedVariables false
set_option linter.unusedSimpArgs false

/-! ### ferrulelaw02_LexWords: function 4 -/
mutual
def ferrulelaw02_LexWords.j0 : Nat → List ByteArray → ByteArray → ByteArray → List (S39) → List (S39) → Bool → Option (Bool)
  | 0, _, _, _, _, _, _ => none
  | k + 1, x5, x6, x7, x8, x11, x59 => if x59 = true then (some false) else (ferrulelaw02_LexWords.l0 k x5 x6 x7 x8 x11 false 0)
def ferrulelaw02_LexWords.l0 : Nat → List ByteArray → ByteArray → ByteArray → List (S39) → List (S39) → Bool → Int → Option (Bool)
  | 0, _, _, _, _, _, _, _ => none
  | k + 1, x5, x6, x7, x8, x11, x14, x15 => if x15 < (x5.length : Int) then (if x14 = true then (ferrulelaw02_LexWords.l0 k x5 x6 x7 x8 x11 true (wrap64 (x15 + 1))) else (if 0 ≤ x15 then (if x6.size + x7.size ≤ 9223372036854775807 then (ferrulelaw02_LexWords.l0 k x5 x6 x7 x8 x11 ((rdOf ByteArray.empty x5 x15).toList == (x6 ++ x7).toList) (wrap64 (x15 + 1))) else (none)) else (none))) else (if 0 < (x8.length : Int) then (if ((rd_T39 x8 0).f0) = 3 then ((lex_Word.f k x6).bind fun t214 => (if t214 = true then (if x6.size + x7.size ≤ 9223372036854775807 then ((lex_Word.f k (x6 ++ x7)).bind fun t215 => (if (t215 == x14) = true then (if 0 < (x11.length : Int) then (some ((((rd_T39 x11 0).f0) == 1) == (!x14))) else (none)) else (some false))) else (none)) else (some false))) else (some false)) else (none))
end
def ferrulelaw02_LexWords.f (k : Nat) (a0 : Int) (a1 : Int) : Option (Bool) := (some (([(⟨#[102, 110]⟩ : ByteArray), (⟨#[115, 116, 114, 117, 99, 116]⟩ : ByteArray), (⟨#[101, 110, 117, 109]⟩ : ByteArray), (⟨#[99, 111, 110, 115, 116]⟩ : ByteArray), (⟨#[108, 101, 116]⟩ : ByteArray), (⟨#[109, 117, 116]⟩ : ByteArray), (⟨#[105, 102]⟩ : ByteArray), (⟨#[101, 108, 115, 101]⟩ : ByteArray), (⟨#[109, 97, 116, 99, 104]⟩ : ByteArray), (⟨#[119, 104, 105, 108, 101]⟩ : ByteArray), (⟨#[108, 111, 111, 112]⟩ : ByteArray), (⟨#[98, 114, 101, 97, 107]⟩ : ByteArray), (⟨#[99, 111, 110, 116, 105, 110, 117, 101]⟩ : ByteArray), (⟨#[114, 101, 116, 117, 114, 110]⟩ : ByteArray), (⟨#[116, 114, 117, 101]⟩ : ByteArray), (⟨#[102, 97, 108, 115, 101]⟩ : ByteArray), (⟨#[97, 115]⟩ : ByteArray)] : List ByteArray) : List ByteArray)).bind fun y195 => (if 0 ≤ (Int.tmod (wrap64 ((Int.tmod a0 17) + 17)) 17) then (if (Int.tmod (wrap64 ((Int.tmod a0 17) + 17)) 17) < (y195.length : Int) then (if 0 ≤ (Int.tmod (wrap64 (a1)) 13) then (if (Int.tmod (wrap64 (a1)) 13) < 13 then ((some (([bt (⟨#[97, 98, 99, 120, 121, 122, 65, 66, 67, 95, 48, 49, 57]⟩ : ByteArray) (Int.tmod (wrap64 (a1)) 13)] : List Int) : List Int)).bind fun y199 => ((lex_Lex.f k (rdOf ByteArray.empty y195 (Int.tmod (wrap64 ((Int.tmod a0 17) + 17)) 17))).bind fun bt202 => (if (rdOf ByteArray.empty y195 (Int.tmod (wrap64 ((Int.tmod a0 17) + 17)) 17)).size + (strOfNums y199).size ≤ 9223372036854775807 then ((lex_Lex.f k ((rdOf ByteArray.empty y195 (Int.tmod (wrap64 ((Int.tmod a0 17) + 17)) 17)) ++ (strOfNums y199))).bind fun bt207 => (if bt202.2.2 = 0 then (if bt207.2.2 = 0 then (if (bt202.1.length : Int) = 1 then (ferrulelaw02_LexWords.j0 k y195 (rdOf ByteArray.empty y195 (Int.tmod (wrap64 ((Int.tmod a0 17) + 17)) 17)) (strOfNums y199) bt202.1 bt207.1 ((bt207.1.length : Int) != 1)) else (ferrulelaw02_LexWords.j0 k y195 (rdOf ByteArray.empty y195 (Int.tmod (wrap64 ((Int.tmod a0 17) + 17)) 17)) (strOfNums y199) bt202.1 bt207.1 true)) else (ferrulelaw02_LexWords.j0 k y195 (rdOf ByteArray.empty y195 (Int.tmod (wrap64 ((Int.tmod a0 17) + 17)) 17)) (strOfNums y199) bt202.1 bt207.1 true)) else (ferrulelaw02_LexWords.j0 k y195 (rdOf ByteArray.empty y195 (Int.tmod (wrap64 ((Int.tmod a0 17) + 17)) 17)) (strOfNums y199) bt202.1 bt207.1 true))) else (none)))) else (none)) else (none)) else (none)) else (none))
theorem ferrulelaw02_LexWords.mono_l : ∀ k, (∀ y0 y1 y2 y3 y4 y5, LeO (ferrulelaw02_LexWords.j0 k y0 y1 y2 y3 y4 y5) (ferrulelaw02_LexWords.j0 (k + 1) y0 y1 y2 y3 y4 y5)) ∧ (∀ y0 y1 y2 y3 y4 y5 y6, LeO (ferrulelaw02_LexWords.l0 k y0 y1 y2 y3 y4 y5 y6) (ferrulelaw02_LexWords.l0 (k + 1) y0 y1 y2 y3 y4 y5 y6))
  | 0 => ⟨fun _ _ _ _ _ _ r h => by simp [ferrulelaw02_LexWords.j0] at h, fun _ _ _ _ _ _ _ r h => by simp [ferrulelaw02_LexWords.l0] at h⟩
  | k + 1 => by
    obtain ⟨ih0, ih1⟩ := ferrulelaw02_LexWords.mono_l k
    refine ⟨?_, ?_⟩
    · intro y0 y1 y2 y3 y4 y5
      unfold ferrulelaw02_LexWords.j0
      repeat' first
      | (with_reducible exact ih0 _ _ _ _ _ _)
      | (with_reducible exact ih1 _ _ _ _ _ _ _)
      | (with_reducible exact lex_Lex.mono _ _)
      | (with_reducible exact lex_Word.mono _ _)
      | (with_reducible exact LeO.refl _)
      | (with_reducible exact LeO.none _)
      | (with_reducible refine LeO.ite ?_ ?_)
      | (with_reducible refine LeO.bind ?_ (fun _ => ?_))
      | exact ih0 _ _ _ _ _ _
      | exact ih1 _ _ _ _ _ _ _
      | exact lex_Lex.mono _ _
      | exact lex_Word.mono _ _
      | exact LeO.none _
      | refine LeO.ite ?_ ?_
      | refine LeO.bind ?_ (fun _ => ?_)
    · intro y0 y1 y2 y3 y4 y5 y6
      unfold ferrulelaw02_LexWords.l0
      repeat' first
      | (with_reducible exact ih0 _ _ _ _ _ _)
      | (with_reducible exact ih1 _ _ _ _ _ _ _)
      | (with_reducible exact lex_Lex.mono _ _)
      | (with_reducible exact lex_Word.mono _ _)
      | (with_reducible exact LeO.refl _)
      | (with_reducible exact LeO.none _)
      | (with_reducible refine LeO.ite ?_ ?_)
      | (with_reducible refine LeO.bind ?_ (fun _ => ?_))
      | exact ih0 _ _ _ _ _ _
      | exact ih1 _ _ _ _ _ _ _
      | exact lex_Lex.mono _ _
      | exact lex_Word.mono _ _
      | exact LeO.none _
      | refine LeO.ite ?_ ?_
      | refine LeO.bind ?_ (fun _ => ?_)
theorem ferrulelaw02_LexWords.mono : ∀ a0 a1 k, LeO (ferrulelaw02_LexWords.f k a0 a1) (ferrulelaw02_LexWords.f (k + 1) a0 a1) := by
  intro a0 a1 k
  obtain ⟨ih0, ih1⟩ := ferrulelaw02_LexWords.mono_l k
  unfold ferrulelaw02_LexWords.f
  repeat' first
      | (with_reducible exact ih0 _ _ _ _ _ _)
      | (with_reducible exact ih1 _ _ _ _ _ _ _)
      | (with_reducible exact lex_Lex.mono _ _)
      | (with_reducible exact lex_Word.mono _ _)
      | (with_reducible exact LeO.refl _)
      | (with_reducible exact LeO.none _)
      | (with_reducible refine LeO.ite ?_ ?_)
      | (with_reducible refine LeO.bind ?_ (fun _ => ?_))
      | exact ih0 _ _ _ _ _ _
      | exact ih1 _ _ _ _ _ _ _
      | exact lex_Lex.mono _ _
      | exact lex_Word.mono _ _
      | exact LeO.none _
      | refine LeO.ite ?_ ?_
      | refine LeO.bind ?_ (fun _ => ?_)
set_option maxHeartbeats 8000000 in
set_option maxRecDepth 100000 in
theorem ferrulelaw02_LexWords.calls (k : Nat) (a0 : Int) (a1 : Int) (r : Bool) (w : World) (hG : Gl w) (h : ferrulelaw02_LexWords.f k a0 a1 = some r) :
    Calls Tryd.prog 4 #[.int .i64 a0, .int .u8 a1] w fun e w' => e = .returned (.bool r) ∧ Below w.heap.size w w' := by
  have HG := Aside0.mk hG
  clear hG
  have HB := Aside0.mk (Below.refl w.heap.size w)
  have H : ((some (([(⟨#[102, 110]⟩ : ByteArray), (⟨#[115, 116, 114, 117, 99, 116]⟩ : ByteArray), (⟨#[101, 110, 117, 109]⟩ : ByteArray), (⟨#[99, 111, 110, 115, 116]⟩ : ByteArray), (⟨#[108, 101, 116]⟩ : ByteArray), (⟨#[109, 117, 116]⟩ : ByteArray), (⟨#[105, 102]⟩ : ByteArray), (⟨#[101, 108, 115, 101]⟩ : ByteArray), (⟨#[109, 97, 116, 99, 104]⟩ : ByteArray), (⟨#[119, 104, 105, 108, 101]⟩ : ByteArray), (⟨#[108, 111, 111, 112]⟩ : ByteArray), (⟨#[98, 114, 101, 97, 107]⟩ : ByteArray), (⟨#[99, 111, 110, 116, 105, 110, 117, 101]⟩ : ByteArray), (⟨#[114, 101, 116, 117, 114, 110]⟩ : ByteArray), (⟨#[116, 114, 117, 101]⟩ : ByteArray), (⟨#[102, 97, 108, 115, 101]⟩ : ByteArray), (⟨#[97, 115]⟩ : ByteArray)] : List ByteArray) : List ByteArray)).bind fun y195 => (if 0 ≤ (Int.tmod (wrap64 ((Int.tmod a0 17) + 17)) 17) then (if (Int.tmod (wrap64 ((Int.tmod a0 17) + 17)) 17) < (y195.length : Int) then (if 0 ≤ (Int.tmod (wrap64 (a1)) 13) then (if (Int.tmod (wrap64 (a1)) 13) < 13 then ((some (([bt (⟨#[97, 98, 99, 120, 121, 122, 65, 66, 67, 95, 48, 49, 57]⟩ : ByteArray) (Int.tmod (wrap64 (a1)) 13)] : List Int) : List Int)).bind fun y199 => ((lex_Lex.f k (rdOf ByteArray.empty y195 (Int.tmod (wrap64 ((Int.tmod a0 17) + 17)) 17))).bind fun bt202 => (if (rdOf ByteArray.empty y195 (Int.tmod (wrap64 ((Int.tmod a0 17) + 17)) 17)).size + (strOfNums y199).size ≤ 9223372036854775807 then ((lex_Lex.f k ((rdOf ByteArray.empty y195 (Int.tmod (wrap64 ((Int.tmod a0 17) + 17)) 17)) ++ (strOfNums y199))).bind fun bt207 => (if bt202.2.2 = 0 then (if bt207.2.2 = 0 then (if (bt202.1.length : Int) = 1 then (ferrulelaw02_LexWords.j0 k y195 (rdOf ByteArray.empty y195 (Int.tmod (wrap64 ((Int.tmod a0 17) + 17)) 17)) (strOfNums y199) bt202.1 bt207.1 ((bt207.1.length : Int) != 1)) else (ferrulelaw02_LexWords.j0 k y195 (rdOf ByteArray.empty y195 (Int.tmod (wrap64 ((Int.tmod a0 17) + 17)) 17)) (strOfNums y199) bt202.1 bt207.1 true)) else (ferrulelaw02_LexWords.j0 k y195 (rdOf ByteArray.empty y195 (Int.tmod (wrap64 ((Int.tmod a0 17) + 17)) 17)) (strOfNums y199) bt202.1 bt207.1 true)) else (ferrulelaw02_LexWords.j0 k y195 (rdOf ByteArray.empty y195 (Int.tmod (wrap64 ((Int.tmod a0 17) + 17)) 17)) (strOfNums y199) bt202.1 bt207.1 true))) else (none)))) else (none)) else (none)) else (none)) else (none))) = some r := h
  clear h
  obtain ⟨y195, hy195⟩ : ∃ y_ : List ByteArray, y_ = (([(⟨#[102, 110]⟩ : ByteArray), (⟨#[115, 116, 114, 117, 99, 116]⟩ : ByteArray), (⟨#[101, 110, 117, 109]⟩ : ByteArray), (⟨#[99, 111, 110, 115, 116]⟩ : ByteArray), (⟨#[108, 101, 116]⟩ : ByteArray), (⟨#[109, 117, 116]⟩ : ByteArray), (⟨#[105, 102]⟩ : ByteArray), (⟨#[101, 108, 115, 101]⟩ : ByteArray), (⟨#[109, 97, 116, 99, 104]⟩ : ByteArray), (⟨#[119, 104, 105, 108, 101]⟩ : ByteArray), (⟨#[108, 111, 111, 112]⟩ : ByteArray), (⟨#[98, 114, 101, 97, 107]⟩ : ByteArray), (⟨#[99, 111, 110, 116, 105, 110, 117, 101]⟩ : ByteArray), (⟨#[114, 101, 116, 117, 114, 110]⟩ : ByteArray), (⟨#[116, 114, 117, 101]⟩ : ByteArray), (⟨#[102, 97, 108, 115, 101]⟩ : ByteArray), (⟨#[97, 115]⟩ : ByteArray)] : List ByteArray)) := ⟨_, rfl⟩
  replace H : (if 0 ≤ (Int.tmod (wrap64 ((Int.tmod a0 17) + 17)) 17) then (if (Int.tmod (wrap64 ((Int.tmod a0 17) + 17)) 17) < (y195.length : Int) then (if 0 ≤ (Int.tmod (wrap64 (a1)) 13) then (if (Int.tmod (wrap64 (a1)) 13) < 13 then ((some (([bt (⟨#[97, 98, 99, 120, 121, 122, 65, 66, 67, 95, 48, 49, 57]⟩ : ByteArray) (Int.tmod (wrap64 (a1)) 13)] : List Int) : List Int)).bind fun y199 => ((lex_Lex.f k (rdOf ByteArray.empty y195 (Int.tmod (wrap64 ((Int.tmod a0 17) + 17)) 17))).bind fun bt202 => (if (rdOf ByteArray.empty y195 (Int.tmod (wrap64 ((Int.tmod a0 17) + 17)) 17)).size + (strOfNums y199).size ≤ 9223372036854775807 then ((lex_Lex.f k ((rdOf ByteArray.empty y195 (Int.tmod (wrap64 ((Int.tmod a0 17) + 17)) 17)) ++ (strOfNums y199))).bind fun bt207 => (if bt202.2.2 = 0 then (if bt207.2.2 = 0 then (if (bt202.1.length : Int) = 1 then (ferrulelaw02_LexWords.j0 k y195 (rdOf ByteArray.empty y195 (Int.tmod (wrap64 ((Int.tmod a0 17) + 17)) 17)) (strOfNums y199) bt202.1 bt207.1 ((bt207.1.length : Int) != 1)) else (ferrulelaw02_LexWords.j0 k y195 (rdOf ByteArray.empty y195 (Int.tmod (wrap64 ((Int.tmod a0 17) + 17)) 17)) (strOfNums y199) bt202.1 bt207.1 true)) else (ferrulelaw02_LexWords.j0 k y195 (rdOf ByteArray.empty y195 (Int.tmod (wrap64 ((Int.tmod a0 17) + 17)) 17)) (strOfNums y199) bt202.1 bt207.1 true)) else (ferrulelaw02_LexWords.j0 k y195 (rdOf ByteArray.empty y195 (Int.tmod (wrap64 ((Int.tmod a0 17) + 17)) 17)) (strOfNums y199) bt202.1 bt207.1 true))) else (none)))) else (none)) else (none)) else (none)) else (none)) = some r := by first | (rw [hy195]; with_reducible exact H) | (have H2_ := (Option.bind_some _ _).symm.trans H; rw [hy195]; with_reducible exact H2_) | (have H2_ := (Option.bind_some _ _).symm.trans H; with_reducible exact H2_) | with_reducible exact H | (rw [hy195]; exact H) | exact H
  have Ny195 := Aside0.mk hy195
  clear hy195
  obtain ⟨ji3, hji3⟩ : ∃ j_ : Int, (Int.tmod (wrap64 ((Int.tmod a0 17) + 17)) 17) = j_ := ⟨_, rfl⟩
  replace H : (if 0 ≤ (ji3) then (if (ji3) < (y195.length : Int) then (if 0 ≤ (Int.tmod (wrap64 (a1)) 13) then (if (Int.tmod (wrap64 (a1)) 13) < 13 then ((some (([bt (⟨#[97, 98, 99, 120, 121, 122, 65, 66, 67, 95, 48, 49, 57]⟩ : ByteArray) (Int.tmod (wrap64 (a1)) 13)] : List Int) : List Int)).bind fun y199 => ((lex_Lex.f k (rdOf ByteArray.empty y195 (ji3))).bind fun bt202 => (if (rdOf ByteArray.empty y195 (ji3)).size + (strOfNums y199).size ≤ 9223372036854775807 then ((lex_Lex.f k ((rdOf ByteArray.empty y195 (ji3)) ++ (strOfNums y199))).bind fun bt207 => (if bt202.2.2 = 0 then (if bt207.2.2 = 0 then (if (bt202.1.length : Int) = 1 then (ferrulelaw02_LexWords.j0 k y195 (rdOf ByteArray.empty y195 (ji3)) (strOfNums y199) bt202.1 bt207.1 ((bt207.1.length : Int) != 1)) else (ferrulelaw02_LexWords.j0 k y195 (rdOf ByteArray.empty y195 (ji3)) (strOfNums y199) bt202.1 bt207.1 true)) else (ferrulelaw02_LexWords.j0 k y195 (rdOf ByteArray.empty y195 (ji3)) (strOfNums y199) bt202.1 bt207.1 true)) else (ferrulelaw02_LexWords.j0 k y195 (rdOf ByteArray.empty y195 (ji3)) (strOfNums y199) bt202.1 bt207.1 true))) else (none)))) else (none)) else (none)) else (none)) else (none)) = some r := by first | (rw [hji3] at H; exact H) | (simp only [hji3] at H ⊢; exact H)
  by_cases c4 : 0 ≤ (ji3)
  · rw [if_pos c4] at H
    have c4b0 : decide (0 ≤ (ji3)) = true := decide_eq_true c4
    clear c4
    by_cases c5 : (ji3) < (y195.length : Int)
    · rw [if_pos c5] at H
      have c5b0 : decide ((ji3) < (y195.length : Int)) = true := decide_eq_true c5
      clear c5
      obtain ⟨ji6, hji6⟩ : ∃ j_ : Int, (Int.tmod (wrap64 (a1)) 13) = j_ := ⟨_, rfl⟩
      replace H : (if 0 ≤ (ji6) then (if (ji6) < 13 then ((some (([bt (⟨#[97, 98, 99, 120, 121, 122, 65, 66, 67, 95, 48, 49, 57]⟩ : ByteArray) (ji6)] : List Int) : List Int)).bind fun y199 => ((lex_Lex.f k (rdOf ByteArray.empty y195 (ji3))).bind fun bt202 => (if (rdOf ByteArray.empty y195 (ji3)).size + (strOfNums y199).size ≤ 9223372036854775807 then ((lex_Lex.f k ((rdOf ByteArray.empty y195 (ji3)) ++ (strOfNums y199))).bind fun bt207 => (if bt202.2.2 = 0 then (if bt207.2.2 = 0 then (if (bt202.1.length : Int) = 1 then (ferrulelaw02_LexWords.j0 k y195 (rdOf ByteArray.empty y195 (ji3)) (strOfNums y199) bt202.1 bt207.1 ((bt207.1.length : Int) != 1)) else (ferrulelaw02_LexWords.j0 k y195 (rdOf ByteArray.empty y195 (ji3)) (strOfNums y199) bt202.1 bt207.1 true)) else (ferrulelaw02_LexWords.j0 k y195 (rdOf ByteArray.empty y195 (ji3)) (strOfNums y199) bt202.1 bt207.1 true)) else (ferrulelaw02_LexWords.j0 k y195 (rdOf ByteArray.empty y195 (ji3)) (strOfNums y199) bt202.1 bt207.1 true))) else (none)))) else (none)) else (none)) = some r := by first | (rw [hji6] at H; exact H) | (simp only [hji6] at H ⊢; exact H)
      by_cases c7 : 0 ≤ (ji6)
      · rw [if_pos c7] at H
        have c7b0 : decide (0 ≤ (ji6)) = true := decide_eq_true c7
        clear c7
        by_cases c8 : (ji6) < 13
        · rw [if_pos c8] at H
          have c8b0 : decide ((ji6) < 13) = true := decide_eq_true c8
          clear c8
          obtain ⟨y199, hy199⟩ : ∃ y_ : List Int, y_ = (([bt (⟨#[97, 98, 99, 120, 121, 122, 65, 66, 67, 95, 48, 49, 57]⟩ : ByteArray) (ji6)] : List Int)) := ⟨_, rfl⟩
          replace H : ((lex_Lex.f k (rdOf ByteArray.empty y195 (ji3))).bind fun bt202 => (if (rdOf ByteArray.empty y195 (ji3)).size + (strOfNums y199).size ≤ 9223372036854775807 then ((lex_Lex.f k ((rdOf ByteArray.empty y195 (ji3)) ++ (strOfNums y199))).bind fun bt207 => (if bt202.2.2 = 0 then (if bt207.2.2 = 0 then (if (bt202.1.length : Int) = 1 then (ferrulelaw02_LexWords.j0 k y195 (rdOf ByteArray.empty y195 (ji3)) (strOfNums y199) bt202.1 bt207.1 ((bt207.1.length : Int) != 1)) else (ferrulelaw02_LexWords.j0 k y195 (rdOf ByteArray.empty y195 (ji3)) (strOfNums y199) bt202.1 bt207.1 true)) else (ferrulelaw02_LexWords.j0 k y195 (rdOf ByteArray.empty y195 (ji3)) (strOfNums y199) bt202.1 bt207.1 true)) else (ferrulelaw02_LexWords.j0 k y195 (rdOf ByteArray.empty y195 (ji3)) (strOfNums y199) bt202.1 bt207.1 true))) else (none))) = some r := by first | (rw [hy199]; with_reducible exact H) | (have H2_ := (Option.bind_some _ _).symm.trans H; rw [hy199]; with_reducible exact H2_) | (have H2_ := (Option.bind_some _ _).symm.trans H; with_reducible exact H2_) | with_reducible exact H | (rw [hy199]; exact H) | exact H
          have Ny199 := Aside0.mk hy199
          clear hy199
          replace H := Option.bind_eq_some_iff.mp H
          obtain ⟨⟨t202, t205, t206⟩, A100, H⟩ := H
          replace H : (if (rdOf ByteArray.empty y195 (ji3)).size + (strOfNums y199).size ≤ 9223372036854775807 then ((lex_Lex.f k ((rdOf ByteArray.empty y195 (ji3)) ++ (strOfNums y199))).bind fun bt207 => (if t206 = 0 then (if bt207.2.2 = 0 then (if (t202.length : Int) = 1 then (ferrulelaw02_LexWords.j0 k y195 (rdOf ByteArray.empty y195 (ji3)) (strOfNums y199) t202 bt207.1 ((bt207.1.length : Int) != 1)) else (ferrulelaw02_LexWords.j0 k y195 (rdOf ByteArray.empty y195 (ji3)) (strOfNums y199) t202 bt207.1 true)) else (ferrulelaw02_LexWords.j0 k y195 (rdOf ByteArray.empty y195 (ji3)) (strOfNums y199) t202 bt207.1 true)) else (ferrulelaw02_LexWords.j0 k y195 (rdOf ByteArray.empty y195 (ji3)) (strOfNums y199) t202 bt207.1 true))) else (none)) = some r := H
          have A10 := Aside0.mk A100
          clear A100
          by_cases c11 : (rdOf ByteArray.empty y195 (ji3)).size + (strOfNums y199).size ≤ 9223372036854775807
          · rw [if_pos c11] at H
            have c11b0 := eq_true c11
            have c11b1 : decide ((rdOf ByteArray.empty y195 (ji3)).size + (strOfNums y199).size ≤ 9223372036854775807) = true := decide_eq_true c11
            try have c11b2 : (9223372036854775807 < (rdOf ByteArray.empty y195 (ji3)).size + (strOfNums y199).size) = False := eq_false (Nat.not_lt.2 c11)
            replace H := Option.bind_eq_some_iff.mp H
            obtain ⟨⟨t207, t210, t211⟩, A120, H⟩ := H
            replace H : (if t206 = 0 then (if t211 = 0 then (if (t202.length : Int) = 1 then (ferrulelaw02_LexWords.j0 k y195 (rdOf ByteArray.empty y195 (ji3)) (strOfNums y199) t202 t207 ((t207.length : Int) != 1)) else (ferrulelaw02_LexWords.j0 k y195 (rdOf ByteArray.empty y195 (ji3)) (strOfNums y199) t202 t207 true)) else (ferrulelaw02_LexWords.j0 k y195 (rdOf ByteArray.empty y195 (ji3)) (strOfNums y199) t202 t207 true)) else (ferrulelaw02_LexWords.j0 k y195 (rdOf ByteArray.empty y195 (ji3)) (strOfNums y199) t202 t207 true)) = some r := H
            have A12 := Aside0.mk A120
            clear A120
            have HC13 := Aside0.mk H
            clear H
            go_enter Tryd.func4, Tryd.ntmps4
            go_upto_region 6 with (first | ((with_reducible refine gate_dst (N := 16) rfl ?_); (try (refine gate_guard (by rfl) ?_; dsimp only)); refine Kd.R_lit Kd.string _ 9 ?hg (N := 16) ?hd (xs := ([(⟨#[102, 110]⟩ : ByteArray), (⟨#[115, 116, 114, 117, 99, 116]⟩ : ByteArray), (⟨#[101, 110, 117, 109]⟩ : ByteArray), (⟨#[99, 111, 110, 115, 116]⟩ : ByteArray), (⟨#[108, 101, 116]⟩ : ByteArray), (⟨#[109, 117, 116]⟩ : ByteArray), (⟨#[105, 102]⟩ : ByteArray), (⟨#[101, 108, 115, 101]⟩ : ByteArray), (⟨#[109, 97, 116, 99, 104]⟩ : ByteArray), (⟨#[119, 104, 105, 108, 101]⟩ : ByteArray), (⟨#[108, 111, 111, 112]⟩ : ByteArray), (⟨#[98, 114, 101, 97, 107]⟩ : ByteArray), (⟨#[99, 111, 110, 116, 105, 110, 117, 101]⟩ : ByteArray), (⟨#[114, 101, 116, 117, 114, 110]⟩ : ByteArray), (⟨#[116, 114, 117, 101]⟩ : ByteArray), (⟨#[102, 97, 108, 115, 101]⟩ : ByteArray), (⟨#[97, 115]⟩ : ByteArray)] : List ByteArray)) (inner := [.string (⟨#[102, 110]⟩ : ByteArray), .string (⟨#[115, 116, 114, 117, 99, 116]⟩ : ByteArray), .string (⟨#[101, 110, 117, 109]⟩ : ByteArray), .string (⟨#[99, 111, 110, 115, 116]⟩ : ByteArray), .string (⟨#[108, 101, 116]⟩ : ByteArray), .string (⟨#[109, 117, 116]⟩ : ByteArray), .string (⟨#[105, 102]⟩ : ByteArray), .string (⟨#[101, 108, 115, 101]⟩ : ByteArray), .string (⟨#[109, 97, 116, 99, 104]⟩ : ByteArray), .string (⟨#[119, 104, 105, 108, 101]⟩ : ByteArray), .string (⟨#[108, 111, 111, 112]⟩ : ByteArray), .string (⟨#[98, 114, 101, 97, 107]⟩ : ByteArray), .string (⟨#[99, 111, 110, 116, 105, 110, 117, 101]⟩ : ByteArray), .string (⟨#[114, 101, 116, 117, 114, 110]⟩ : ByteArray), .string (⟨#[116, 114, 117, 101]⟩ : ByteArray), .string (⟨#[102, 97, 108, 115, 101]⟩ : ByteArray), .string (⟨#[97, 115]⟩ : ByteArray)]) (ok := fun _ => True) (okp := fun _ => True) ?hr ?hp (fun _ hk => hk) trivial (Below.refl _ _) (Nat.le_refl _) (by simp) ?_; (case hd => rfl); (case hg => rfl); (case hr => first | (go_simp; done) | (go_simp; rfl)); (case hp => exact (Reps.one (show Kd.M Kd.string _ _ _ (⟨#[102, 110]⟩ : ByteArray) [.string (⟨#[102, 110]⟩ : ByteArray)] from rfl) (Reps.one (show Kd.M Kd.string _ _ _ (⟨#[115, 116, 114, 117, 99, 116]⟩ : ByteArray) [.string (⟨#[115, 116, 114, 117, 99, 116]⟩ : ByteArray)] from rfl) (Reps.one (show Kd.M Kd.string _ _ _ (⟨#[101, 110, 117, 109]⟩ : ByteArray) [.string (⟨#[101, 110, 117, 109]⟩ : ByteArray)] from rfl) (Reps.one (show Kd.M Kd.string _ _ _ (⟨#[99, 111, 110, 115, 116]⟩ : ByteArray) [.string (⟨#[99, 111, 110, 115, 116]⟩ : ByteArray)] from rfl) (Reps.one (show Kd.M Kd.string _ _ _ (⟨#[108, 101, 116]⟩ : ByteArray) [.string (⟨#[108, 101, 116]⟩ : ByteArray)] from rfl) (Reps.one (show Kd.M Kd.string _ _ _ (⟨#[109, 117, 116]⟩ : ByteArray) [.string (⟨#[109, 117, 116]⟩ : ByteArray)] from rfl) (Reps.one (show Kd.M Kd.string _ _ _ (⟨#[105, 102]⟩ : ByteArray) [.string (⟨#[105, 102]⟩ : ByteArray)] from rfl) (Reps.one (show Kd.M Kd.string _ _ _ (⟨#[101, 108, 115, 101]⟩ : ByteArray) [.string (⟨#[101, 108, 115, 101]⟩ : ByteArray)] from rfl) (Reps.one (show Kd.M Kd.string _ _ _ (⟨#[109, 97, 116, 99, 104]⟩ : ByteArray) [.string (⟨#[109, 97, 116, 99, 104]⟩ : ByteArray)] from rfl) (Reps.one (show Kd.M Kd.string _ _ _ (⟨#[119, 104, 105, 108, 101]⟩ : ByteArray) [.string (⟨#[119, 104, 105, 108, 101]⟩ : ByteArray)] from rfl) (Reps.one (show Kd.M Kd.string _ _ _ (⟨#[108, 111, 111, 112]⟩ : ByteArray) [.string (⟨#[108, 111, 111, 112]⟩ : ByteArray)] from rfl) (Reps.one (show Kd.M Kd.string _ _ _ (⟨#[98, 114, 101, 97, 107]⟩ : ByteArray) [.string (⟨#[98, 114, 101, 97, 107]⟩ : ByteArray)] from rfl) (Reps.one (show Kd.M Kd.string _ _ _ (⟨#[99, 111, 110, 116, 105, 110, 117, 101]⟩ : ByteArray) [.string (⟨#[99, 111, 110, 116, 105, 110, 117, 101]⟩ : ByteArray)] from rfl) (Reps.one (show Kd.M Kd.string _ _ _ (⟨#[114, 101, 116, 117, 114, 110]⟩ : ByteArray) [.string (⟨#[114, 101, 116, 117, 114, 110]⟩ : ByteArray)] from rfl) (Reps.one (show Kd.M Kd.string _ _ _ (⟨#[116, 114, 117, 101]⟩ : ByteArray) [.string (⟨#[116, 114, 117, 101]⟩ : ByteArray)] from rfl) (Reps.one (show Kd.M Kd.string _ _ _ (⟨#[102, 97, 108, 115, 101]⟩ : ByteArray) [.string (⟨#[102, 97, 108, 115, 101]⟩ : ByteArray)] from rfl) (Reps.one (show Kd.M Kd.string _ _ _ (⟨#[97, 115]⟩ : ByteArray) [.string (⟨#[97, 115]⟩ : ByteArray)] from rfl) (Reps.none _ _))))))))))))))))))); intro v196 w14 ho15 hb hg_ hnew_; clear hg_ hnew_; (first | rw [← Ny195.out] at ho15 | (simp only [Int.reduceToNat] at ho15; rw [← Ny195.out] at ho15)); have n0_ := Aside0.mk (Kd.R_lower ho15 (below_size (by repeat (first | (with_reducible first | exact HB.out | apply below_alloc | apply pw_below_drewN | apply below_drew1) | exact HB.out)))); have n1_ := Aside0.mk (below_step (by repeat (first | (with_reducible first | exact HB.out | apply below_alloc | apply pw_below_drewN | apply below_drew1) | exact HB.out)) hb); clear HB; have HO197 := n0_; have HB := n1_; clear n0_ n1_; clear hb ho15; obtain ⟨Ao16, co16, eo16⟩ := Kd.R_slice HO197.out; subst eo16; have p198 : 0 ≤ ((ji3) : Int) := of_decide_eq_true (by first | (with_reducible assumption) | assumption); have q198 : (ji3) < (y195.length : Int) := of_decide_eq_true (by first | (with_reducible assumption) | assumption); obtain ⟨ad198, e198, hx198_0⟩ := Kd.at_string (Kd.R_reads' HO197.out).2.2 (ji3) p198 q198; cases e198; replace p198 := eq_true p198; replace q198 := eq_true q198; have p9 : 0 ≤ ((ji6) : Int) := of_decide_eq_true (by first | (with_reducible assumption) | assumption); have q9 : (ji6) < (13 : Int) := of_decide_eq_true (by first | (with_reducible assumption) | assumption); have hx9 := bt_at (⟨#[97, 98, 99, 120, 121, 122, 65, 66, 67, 95, 48, 49, 57]⟩ : ByteArray) (ji6); replace p9 := eq_true p9; replace q9 := eq_true q9) | ((with_reducible refine gate_dst (N := 28) rfl ?_); (try (refine gate_guard (by rfl) ?_; dsimp only)); refine Kd.R_lit (Kd.int .u8) _ 5 ?hg (N := 28) ?hd (xs := ([bt (⟨#[97, 98, 99, 120, 121, 122, 65, 66, 67, 95, 48, 49, 57]⟩ : ByteArray) (ji6)] : List Int)) (inner := [.int .u8 (bt (⟨#[97, 98, 99, 120, 121, 122, 65, 66, 67, 95, 48, 49, 57]⟩ : ByteArray) (ji6))]) (ok := fun _ => True) (okp := fun _ => True) ?hr ?hp (fun _ hk => hk) trivial (Below.refl _ _) (Nat.le_refl _) (by simp) ?_; (case hd => rfl); (case hg => rfl); (case hr => first | (go_simp; done) | (go_simp; rfl)); (case hp => exact (Reps.one (show Kd.M (Kd.int .u8) _ _ _ (bt (⟨#[97, 98, 99, 120, 121, 122, 65, 66, 67, 95, 48, 49, 57]⟩ : ByteArray) (ji6)) [.int .u8 (bt (⟨#[97, 98, 99, 120, 121, 122, 65, 66, 67, 95, 48, 49, 57]⟩ : ByteArray) (ji6))] from rfl) (Reps.none _ _))); intro v200 w17 ho18 hb hg_ hnew_; clear hg_ hnew_; (first | rw [← Ny199.out] at ho18 | (simp only [Int.reduceToNat] at ho18; rw [← Ny199.out] at ho18)); have n0_ := Aside0.mk (Kd.R_below (by (with_reducible repeat (first | apply Kd.R_alloc | apply Kd.R_drewN | apply Kd.R_drew)); exact HO197.out) hb); have n1_ := Aside0.mk (Kd.R_lower ho18 (below_size (by repeat (first | (with_reducible first | exact HB.out | apply below_alloc | apply pw_below_drewN | apply below_drew1) | exact HB.out)))); have n2_ := Aside0.mk (below_step (by repeat (first | (with_reducible first | exact HB.out | apply below_alloc | apply pw_below_drewN | apply below_drew1) | exact HB.out)) hb); clear HO197; clear HB; have HO197 := n0_; have HO201 := n1_; have HB := n2_; clear n0_ n1_ n2_; clear hb ho18; have hcv19 := own_string (P := Tryd.prog) Tryd.underlying37 Tryd.underlying5 Tryd.underlying9 (Kd.own_of_R HO201.out)) | ((with_reducible refine gate_callee (f := 8) rfl ?_); refine goesL_ (some 32) rfl rfl Tryd.func8 (by kernel_rfl) rfl #[.string (rdOf ByteArray.empty y195 (ji3))] rfl (by (try simp only [List.map_toArray, List.map_cons, List.map_nil]); first | done | (simp only [hji3]; rfl) | rfl | (simp only [List.length_drop, List.length_take]; rfl)) ?_; (with_reducible refine (lex_Lex.calls k (rdOf ByteArray.empty y195 (ji3)) t202 t205 t206 _ (Gl.below HG.out (by repeat (first | (with_reducible first | exact HB.out | apply below_alloc | apply pw_below_drewN | apply below_drew1) | exact HB.out))) A10.out).mono ?_); rintro e w20 ⟨v203, rfl, ho0, hb⟩; refine ⟨_, rfl, ?_⟩; have n0_ := Aside0.mk (Kd.R_below (by (with_reducible repeat (first | apply Kd.R_alloc | apply Kd.R_drewN | apply Kd.R_drew)); exact HO197.out) hb); have n1_ := Aside0.mk (Kd.R_below (by (with_reducible repeat (first | apply Kd.R_alloc | apply Kd.R_drewN | apply Kd.R_drew)); exact HO201.out) hb); have n2_ := Aside0.mk (Kd.V_lower (Kd.V_mono (ok' := fun k_ => some k_ ≠ (.slice (some ad198) y195.length co16 : Value).ownBlock ∧ some k_ ≠ (v200 : Value).ownBlock) ho0 (fun k_ hk_ => ⟨(Kd.fresh' (Kd.R_lt (by (with_reducible repeat (first | apply Kd.R_alloc | apply Kd.R_drewN | apply Kd.R_drew)); exact HO197.out)) k_ hk_), (Kd.fresh' (Kd.R_lt (by (with_reducible repeat (first | apply Kd.R_alloc | apply Kd.R_drewN | apply Kd.R_drew)); exact HO201.out)) k_ hk_)⟩)) (below_size (by repeat (first | (with_reducible first | exact HB.out | apply below_alloc | apply pw_below_drewN | apply below_drew1) | exact HB.out)))); have n3_ := Aside0.mk (below_step (by repeat (first | (with_reducible first | exact HB.out | apply below_alloc | apply pw_below_drewN | apply below_drew1) | exact HB.out)) hb); clear HO197; clear HO201; clear HB; have HO197 := n0_; have HO201 := n1_; have HO204 := n2_; have HB := n3_; clear n0_ n1_ n2_ n3_; (try clear hb); (try clear hb2); (try clear hk); (try clear hi); (try clear ho0)) | ((with_reducible refine gate_callee (f := 8) rfl ?_); refine goesL_ (some 40) rfl rfl Tryd.func8 (by kernel_rfl) rfl #[.string ((rdOf ByteArray.empty y195 (ji3)) ++ (strOfNums y199))] rfl (by (try simp only [List.map_toArray, List.map_cons, List.map_nil]); first | done | (simp only [hji3]; rfl) | rfl | (simp only [List.length_drop, List.length_take]; rfl)) ?_; (with_reducible refine (lex_Lex.calls k ((rdOf ByteArray.empty y195 (ji3)) ++ (strOfNums y199)) t207 t210 t211 _ (Gl.below HG.out (by repeat (first | (with_reducible first | exact HB.out | apply below_alloc | apply pw_below_drewN | apply below_drew1) | exact HB.out))) A12.out).mono ?_); rintro e w21 ⟨v208, rfl, ho0, hb⟩; refine ⟨_, rfl, ?_⟩; have n0_ := Aside0.mk (Kd.R_below (by (with_reducible repeat (first | apply Kd.R_alloc | apply Kd.R_drewN | apply Kd.R_drew)); exact HO197.out) hb); have n1_ := Aside0.mk (Kd.R_below (by (with_reducible repeat (first | apply Kd.R_alloc | apply Kd.R_drewN | apply Kd.R_drew)); exact HO201.out) hb); have n2_ := Aside0.mk (Kd.V_below (by (with_reducible repeat (first | apply Kd.V_alloc | apply Kd.V_drewN | apply Kd.V_drew)); exact HO204.out) hb); have n3_ := Aside0.mk (Kd.V_lower (Kd.V_mono (ok' := fun k_ => some k_ ≠ (.slice (some ad198) y195.length co16 : Value).ownBlock ∧ some k_ ≠ (v200 : Value).ownBlock) ho0 (fun k_ hk_ => ⟨(Kd.fresh' (Kd.R_lt (by (with_reducible repeat (first | apply Kd.R_alloc | apply Kd.R_drewN | apply Kd.R_drew)); exact HO197.out)) k_ hk_), (Kd.fresh' (Kd.R_lt (by (with_reducible repeat (first | apply Kd.R_alloc | apply Kd.R_drewN | apply Kd.R_drew)); exact HO201.out)) k_ hk_)⟩)) (below_size (by repeat (first | (with_reducible first | exact HB.out | apply below_alloc | apply pw_below_drewN | apply below_drew1) | exact HB.out)))); have n4_ := Aside0.mk (below_step (by repeat (first | (with_reducible first | exact HB.out | apply below_alloc | apply pw_below_drewN | apply below_drew1) | exact HB.out)) hb); clear HO197; clear HO201; clear HO204; clear HB; have HO197 := n0_; have HO201 := n1_; have HO204 := n2_; have HO209 := n3_; have HB := n4_; clear n0_ n1_ n2_ n3_ n4_; (try clear hb); (try clear hb2); (try clear hk); (try clear hi); (try clear ho0)))
            (try simp only [Act.put, List.setIfInBounds_toArray, List.set_cons_zero, List.set_cons_succ])
            go_cut [59] (fun v59 wc => ∃ (kq : Nat) (x59_12 : Bool), v59 = .bool x59_12 ∧ Aside0 (ferrulelaw02_LexWords.j0 kq y195 (rdOf ByteArray.empty y195 (ji3)) (strOfNums y199) t202 t207 x59_12 = some r) ∧ Aside0 (kq ≤ k) ∧ Aside0 (Kd.R Kd.string 9 wc w.heap.size (fun _ => True) (.slice (some ad198) y195.length co16) y195) ∧ Aside0 (Kd.V k39 39 wc w.heap.size (fun k_ => some k_ ≠ ((.slice (some ad198) y195.length co16) : Value).ownBlock) v203 t202) ∧ Aside0 (Kd.V k39 39 wc w.heap.size (fun k_ => some k_ ≠ ((.slice (some ad198) y195.length co16) : Value).ownBlock) v208 t207) ∧ Aside0 (Below w.heap.size w wc))
            case first =>
              have H := HC13.out
              clear HC13
              by_cases c22 : t206 = 0
              · rw [if_pos c22] at H
                have c22b0 : (t206 == 0) = true := beq_iff_eq.mpr c22
                have c22b1 : (t206 != 0) = false := bne_eq_false_iff_eq.mpr c22
                clear c22
                (first | rw [c22b0] | (simp only [i64_w, i32_w]; rw [c22b0]) | skip)
                by_cases c23 : t211 = 0
                · rw [if_pos c23] at H
                  have c23b0 : (t211 == 0) = true := beq_iff_eq.mpr c23
                  have c23b1 : (t211 != 0) = false := bne_eq_false_iff_eq.mpr c23
                  clear c23
                  by_cases c24 : (t202.length : Int) = 1
                  · rw [if_pos c24] at H
                    have c24b0 : ((t202.length : Int) == 1) = true := beq_iff_eq.mpr c24
                    have c24b1 : ((t202.length : Int) != 1) = false := bne_eq_false_iff_eq.mpr c24
                    clear c24
                    have H' := Aside0.mk H
                    clear H
                    obtain ⟨Ao25, co25, eo25⟩ := Kd.V_slice HO204.out
                    subst eo25
                    obtain ⟨Ao26, co26, eo26⟩ := Kd.V_slice HO209.out
                    subst eo26
                    go_wp2
                    go_meet
                    case rel => exact ⟨_, (((t207.length : Int) != 1)), (by first | rfl | (simp; done) | (simp [*]; done)), H', ⟨by first | omega | exact Nat.le_refl _⟩, ⟨by (with_reducible repeat (first | apply Kd.R_alloc | apply Kd.R_drewN | apply Kd.R_drew)); exact HO197.out⟩, ⟨by (with_reducible repeat (first | apply Kd.V_alloc | apply Kd.V_drewN | apply Kd.V_drew)); exact Kd.V_mono HO204.out (fun _ hk => hk.1)⟩, ⟨by (with_reducible repeat (first | apply Kd.V_alloc | apply Kd.V_drewN | apply Kd.V_drew)); exact Kd.V_mono HO209.out (fun _ hk => hk.1)⟩, ⟨by repeat (first | (with_reducible first | exact HB.out | apply below_alloc | apply pw_below_drewN | apply below_drew1) | exact HB.out)⟩⟩
                  · rw [if_neg c24] at H
                    have c24b0 : ((t202.length : Int) == 1) = false := beq_eq_false_iff_ne.mpr c24
                    have c24b1 : ((t202.length : Int) != 1) = true := bne_iff_ne.mpr c24
                    have H' := Aside0.mk H
                    clear H
                    obtain ⟨Ao27, co27, eo27⟩ := Kd.V_slice HO204.out
                    subst eo27
                    go_wp2
                    go_meet
                    case rel => exact ⟨_, (true), (by first | rfl | (simp; done) | (simp [*]; done)), H', ⟨by first | omega | exact Nat.le_refl _⟩, ⟨by (with_reducible repeat (first | apply Kd.R_alloc | apply Kd.R_drewN | apply Kd.R_drew)); exact HO197.out⟩, ⟨by (with_reducible repeat (first | apply Kd.V_alloc | apply Kd.V_drewN | apply Kd.V_drew)); exact Kd.V_mono HO204.out (fun _ hk => hk.1)⟩, ⟨by (with_reducible repeat (first | apply Kd.V_alloc | apply Kd.V_drewN | apply Kd.V_drew)); exact Kd.V_mono HO209.out (fun _ hk => hk.1)⟩, ⟨by repeat (first | (with_reducible first | exact HB.out | apply below_alloc | apply pw_below_drewN | apply below_drew1) | exact HB.out)⟩⟩
                · rw [if_neg c23] at H
                  have c23b0 : (t211 == 0) = false := beq_eq_false_iff_ne.mpr c23
                  have c23b1 : (t211 != 0) = true := bne_iff_ne.mpr c23
                  have H' := Aside0.mk H
                  clear H
                  go_wp2
                  go_meet
                  case rel => exact ⟨_, (true), (by first | rfl | (simp; done) | (simp [*]; done)), H', ⟨by first | omega | exact Nat.le_refl _⟩, ⟨by (with_reducible repeat (first | apply Kd.R_alloc | apply Kd.R_drewN | apply Kd.R_drew)); exact HO197.out⟩, ⟨by (with_reducible repeat (first | apply Kd.V_alloc | apply Kd.V_drewN | apply Kd.V_drew)); exact Kd.V_mono HO204.out (fun _ hk => hk.1)⟩, ⟨by (with_reducible repeat (first | apply Kd.V_alloc | apply Kd.V_drewN | apply Kd.V_drew)); exact Kd.V_mono HO209.out (fun _ hk => hk.1)⟩, ⟨by repeat (first | (with_reducible first | exact HB.out | apply below_alloc | apply pw_below_drewN | apply below_drew1) | exact HB.out)⟩⟩
              · rw [if_neg c22] at H
                have c22b0 : (t206 == 0) = false := beq_eq_false_iff_ne.mpr c22
                have c22b1 : (t206 != 0) = true := bne_iff_ne.mpr c22
                (first | rw [c22b0] | (simp only [i64_w, i32_w]; rw [c22b0]) | skip)
                have H' := Aside0.mk H
                clear H
                go_wp2
                go_meet
                case rel => exact ⟨_, (true), (by first | rfl | (simp; done) | (simp [*]; done)), H', ⟨by first | omega | exact Nat.le_refl _⟩, ⟨by (with_reducible repeat (first | apply Kd.R_alloc | apply Kd.R_drewN | apply Kd.R_drew)); exact HO197.out⟩, ⟨by (with_reducible repeat (first | apply Kd.V_alloc | apply Kd.V_drewN | apply Kd.V_drew)); exact Kd.V_mono HO204.out (fun _ hk => hk.1)⟩, ⟨by (with_reducible repeat (first | apply Kd.V_alloc | apply Kd.V_drewN | apply Kd.V_drew)); exact Kd.V_mono HO209.out (fun _ hk => hk.1)⟩, ⟨by repeat (first | (with_reducible first | exact HB.out | apply below_alloc | apply pw_below_drewN | apply below_drew1) | exact HB.out)⟩⟩
            case rest =>
              clear HC13
              try clear c1
              try clear p1
              try clear q1
              try clear hx1
              try clear hcv1
              try clear c2
              try clear p2
              try clear c4
              try clear c4b0
              try clear c5
              try clear c5b0
              try clear p6
              try clear c7
              try clear c7b0
              try clear c8
              try clear c8b0
              try clear p9
              try clear q9
              try clear hx9
              try clear c11
              try clear c11b0
              try clear c11b1
              try clear c11b2
              try clear p19
              try clear q19
              try clear hx19
              try clear hcv19
              try clear c22
              try clear c22b0
              try clear c22b1
              try clear c23
              try clear c23b0
              try clear c23b1
              try clear c24
              try clear c24b0
              try clear c24b1
              try clear hx198_0
              try clear p198
              try clear p9
              try clear q198
              try clear q9
              obtain ⟨kq, x59_12, rfl, HA, HJ12, HO_5, HO_8, HO_11, HB⟩ := hcut
              cases kq with
              | zero => exact absurd HA.out (by simp [ferrulelaw02_LexWords.j0])
              | succ kj12 =>
                have H := HA.out
                clear HA
                simp only [ferrulelaw02_LexWords.j0] at H
                by_cases c28 : x59_12 = true
                · subst c28
                  have H1 : (some false) = some r := by rw [if_pos rfl] at H; exact H
                  clear H
                  have H := H1
                  clear H1
                  obtain rfl := Option.some.inj H
                  go_wp2
                  go_ret
                  exact ⟨by first | rfl | (simp [errW_none, errW_some] <;> rfl) | (simp only [← hji3, ← hji6]; first | rfl | (simp [errW_none, errW_some] <;> rfl)) | (simp [*, errW_none, errW_some] <;> rfl), by repeat (first | (with_reducible first | exact HB.out | apply below_alloc | apply pw_below_drewN | apply below_drew1) | exact HB.out)⟩
                · replace c28 := Bool.eq_false_iff.mpr c28
                  subst c28
                  have H1 : (ferrulelaw02_LexWords.l0 kj12 y195 (rdOf ByteArray.empty y195 (ji3)) (strOfNums y199) t202 t207 false 0) = some r := by rw [if_neg (show ¬ (false = true) by decide)] at H; exact H
                  clear H
                  have H := H1
                  clear H1
                  have H' := Aside0.mk H
                  clear H
                  go_wp2
                  go_loopg [14, 15] kj12 (fun kq v14 v15 w' => ∃ (x14_2 : Bool) (x15_2 : Int), v14 = .bool x14_2 ∧ v15 = .int .i64 x15_2 ∧ Aside0 (ferrulelaw02_LexWords.l0 kq y195 (rdOf ByteArray.empty y195 (ji3)) (strOfNums y199) t202 t207 x14_2 x15_2 = some r) ∧ Aside0 (kq ≤ kj12) ∧ Aside0 (Kd.R Kd.string 9 w' w.heap.size (fun _ => True) (.slice (some ad198) y195.length co16) y195) ∧ Aside0 (Kd.V k39 39 w' w.heap.size (fun k_ => some k_ ≠ ((.slice (some ad198) y195.length co16) : Value).ownBlock) v203 t202) ∧ Aside0 (Kd.V k39 39 w' w.heap.size (fun k_ => some k_ ≠ ((.slice (some ad198) y195.length co16) : Value).ownBlock) v208 t207) ∧ Aside0 (Below w.heap.size w w'))
                  case atStart => exact ⟨(false), (0), (by first | rfl | (simp; done) | (simp [*]; done)), (by first | rfl | (simp; done) | (simp [*]; done)), H', ⟨Nat.le_refl _⟩, ⟨by (with_reducible repeat (first | apply Kd.R_alloc | apply Kd.R_drewN | apply Kd.R_drew)); exact HO_5.out⟩, ⟨by (with_reducible repeat (first | apply Kd.V_alloc | apply Kd.V_drewN | apply Kd.V_drew)); exact HO_8.out⟩, ⟨by (with_reducible repeat (first | apply Kd.V_alloc | apply Kd.V_drewN | apply Kd.V_drew)); exact HO_11.out⟩, ⟨by repeat (first | (with_reducible first | exact HB.out | apply below_alloc | apply pw_below_drewN | apply below_drew1) | exact HB.out)⟩⟩
                  case round =>
                    clear H'
                    try clear c1
                    try clear p1
                    try clear q1
                    try clear hx1
                    try clear hcv1
                    try clear c2
                    try clear p2
                    try clear c4
                    try clear c4b0
                    try clear c5
                    try clear c5b0
                    try clear p6
                    try clear c7
                    try clear c7b0
                    try clear c8
                    try clear c8b0
                    try clear p9
                    try clear q9
                    try clear hx9
                    try clear c11
                    try clear c11b0
                    try clear c11b1
                    try clear c11b2
                    try clear p19
                    try clear q19
                    try clear hx19
                    try clear hcv19
                    try clear c22
                    try clear c22b0
                    try clear c22b1
                    try clear c23
                    try clear c23b0
                    try clear c23b1
                    try clear c24
                    try clear c24b0
                    try clear c24b1
                    try clear c28
                    try clear hx198_0
                    try clear p1
                    try clear p19
                    try clear p198
                    try clear p2
                    try clear p6
                    try clear p9
                    try clear q1
                    try clear q19
                    try clear q198
                    try clear q9
                    obtain ⟨x14_2, x15_2, rfl, rfl, HA, HK2, HO_5, HO_8, HO_11, HB⟩ := hrel
                    cases gk with
                    | zero => exact absurd HA.out (by simp [ferrulelaw02_LexWords.l0])
                    | succ k2 =>
                      have H := HA.out
                      clear HA
                      simp only [ferrulelaw02_LexWords.l0] at H
                      by_cases c29 : x15_2 < (y195.length : Int)
                      · rw [if_pos c29] at H
                        have c29b0 : decide (x15_2 < (y195.length : Int)) = true := decide_eq_true c29
                        clear c29
                        by_cases c30 : x14_2 = true
                        · subst c30
                          have H1 : (ferrulelaw02_LexWords.l0 k2 y195 (rdOf ByteArray.empty y195 (ji3)) (strOfNums y199) t202 t207 true (wrap64 (x15_2 + 1))) = some r := by rw [if_pos rfl] at H; exact H
                          clear H
                          have H := H1
                          clear H1
                          have H' := Aside0.mk H
                          clear H
                          go_wp2
                          go_roundg k2
                          case measure => have := HJ12.out; have := HK2.out; omega
                          case rel => exact ⟨(true), (wrap64 (x15_2 + 1)), (by first | rfl | (simp; done) | (simp [*]; done)), (by first | rfl | (simp; done) | (simp [*]; done)), H', ⟨by have := HJ12.out; have := HK2.out; omega⟩, ⟨by (with_reducible repeat (first | apply Kd.R_alloc | apply Kd.R_drewN | apply Kd.R_drew)); exact HO_5.out⟩, ⟨by (with_reducible repeat (first | apply Kd.V_alloc | apply Kd.V_drewN | apply Kd.V_drew)); exact HO_8.out⟩, ⟨by (with_reducible repeat (first | apply Kd.V_alloc | apply Kd.V_drewN | apply Kd.V_drew)); exact HO_11.out⟩, ⟨by repeat (first | (with_reducible first | exact HB.out | apply below_alloc | apply pw_below_drewN | apply below_drew1) | exact HB.out)⟩⟩
                        · replace c30 := Bool.eq_false_iff.mpr c30
                          subst c30
                          have H1 : (if 0 ≤ x15_2 then (if (rdOf ByteArray.empty y195 (ji3)).size + (strOfNums y199).size ≤ 9223372036854775807 then (ferrulelaw02_LexWords.l0 k2 y195 (rdOf ByteArray.empty y195 (ji3)) (strOfNums y199) t202 t207 ((rdOf ByteArray.empty y195 x15_2).toList == ((rdOf ByteArray.empty y195 (ji3)) ++ (strOfNums y199)).toList) (wrap64 (x15_2 + 1))) else (none)) else (none)) = some r := by rw [if_neg (show ¬ (false = true) by decide)] at H; exact H
                          clear H
                          have H := H1
                          clear H1
                          by_cases c31 : 0 ≤ x15_2
                          · rw [if_pos c31] at H
                            have c31b0 : decide (0 ≤ x15_2) = true := decide_eq_true c31
                            clear c31
                            by_cases c32 : (rdOf ByteArray.empty y195 (ji3)).size + (strOfNums y199).size ≤ 9223372036854775807
                            · rw [if_pos c32] at H
                              have c32b0 := eq_true c32
                              have c32b1 : decide ((rdOf ByteArray.empty y195 (ji3)).size + (strOfNums y199).size ≤ 9223372036854775807) = true := decide_eq_true c32
                              try have c32b2 : (9223372036854775807 < (rdOf ByteArray.empty y195 (ji3)).size + (strOfNums y199).size) = False := eq_false (Nat.not_lt.2 c32)
                              have H' := Aside0.mk H
                              clear H
                              have p212 : 0 ≤ (x15_2 : Int) := of_decide_eq_true (by first | (with_reducible assumption) | assumption)
                              have q212 : x15_2 < (y195.length : Int) := of_decide_eq_true (by first | (with_reducible assumption) | assumption)
                              obtain ⟨ad212, e212, hx212_0⟩ := Kd.at_string (Kd.R_reads' HO_5.out).2.2 x15_2 p212 q212
                              obtain rfl : ad198 = ad212 := (by injection e212)
                              replace p212 := eq_true p212
                              replace q212 := eq_true q212
                              go_wp2
                              go_roundg k2
                              case measure => have := HJ12.out; have := HK2.out; omega
                              case rel => exact ⟨(((rdOf ByteArray.empty y195 x15_2).toList == ((rdOf ByteArray.empty y195 (ji3)) ++ (strOfNums y199)).toList)), (wrap64 (x15_2 + 1)), (by first | rfl | (simp; done) | (simp only [← hji3] <;> (first | rfl | simp)) | (simp [*]; done)), (by first | rfl | (simp; done) | (simp [*]; done)), H', ⟨by have := HJ12.out; have := HK2.out; omega⟩, ⟨by (with_reducible repeat (first | apply Kd.R_alloc | apply Kd.R_drewN | apply Kd.R_drew)); exact HO_5.out⟩, ⟨by (with_reducible repeat (first | apply Kd.V_alloc | apply Kd.V_drewN | apply Kd.V_drew)); exact HO_8.out⟩, ⟨by (with_reducible repeat (first | apply Kd.V_alloc | apply Kd.V_drewN | apply Kd.V_drew)); exact HO_11.out⟩, ⟨by repeat (first | (with_reducible first | exact HB.out | apply below_alloc | apply pw_below_drewN | apply below_drew1) | exact HB.out)⟩⟩
                            · rw [if_neg c32] at H
                              exact absurd H (by simp)
                          · rw [if_neg c31] at H
                            exact absurd H (by simp)
                      · rw [if_neg c29] at H
                        have c29b0 : decide (x15_2 < (y195.length : Int)) = false := decide_eq_false c29
                        clear c29
                        by_cases c33 : 0 < (t202.length : Int)
                        · rw [if_pos c33] at H
                          have c33b0 : decide (0 < (t202.length : Int)) = true := decide_eq_true c33
                          have c33b1 : decide (0 < t202.length) = true := decide_eq_true (by omega)
                          clear c33
                          by_cases c34 : ((rd_T39 t202 0).f0) = 3
                          · rw [if_pos c34] at H
                            have c34b0 : (((rd_T39 t202 0).f0) == 3) = true := beq_iff_eq.mpr c34
                            have c34b1 : (((rd_T39 t202 0).f0) != 3) = false := bne_eq_false_iff_eq.mpr c34
                            clear c34
                            replace H := Option.bind_eq_some_iff.mp H
                            obtain ⟨t214, A350, H⟩ := H
                            replace H : (if t214 = true then (if (rdOf ByteArray.empty y195 (ji3)).size + (strOfNums y199).size ≤ 9223372036854775807 then ((lex_Word.f k2 ((rdOf ByteArray.empty y195 (ji3)) ++ (strOfNums y199))).bind fun t215 => (if (t215 == x14_2) = true then (if 0 < (t207.length : Int) then (some ((((rd_T39 t207 0).f0) == 1) == (!x14_2))) else (none)) else (some false))) else (none)) else (some false)) = some r := H
                            have A35 := Aside0.mk A350
                            clear A350
                            by_cases c36 : t214 = true
                            · subst c36
                              have H1 : (if (rdOf ByteArray.empty y195 (ji3)).size + (strOfNums y199).size ≤ 9223372036854775807 then ((lex_Word.f k2 ((rdOf ByteArray.empty y195 (ji3)) ++ (strOfNums y199))).bind fun t215 => (if (t215 == x14_2) = true then (if 0 < (t207.length : Int) then (some ((((rd_T39 t207 0).f0) == 1) == (!x14_2))) else (none)) else (some false))) else (none)) = some r := by rw [if_pos rfl] at H; exact H
                              clear H
                              have H := H1
                              clear H1
                              by_cases c37 : (rdOf ByteArray.empty y195 (ji3)).size + (strOfNums y199).size ≤ 9223372036854775807
                              · rw [if_pos c37] at H
                                have c37b0 := eq_true c37
                                have c37b1 : decide ((rdOf ByteArray.empty y195 (ji3)).size + (strOfNums y199).size ≤ 9223372036854775807) = true := decide_eq_true c37
                                try have c37b2 : (9223372036854775807 < (rdOf ByteArray.empty y195 (ji3)).size + (strOfNums y199).size) = False := eq_false (Nat.not_lt.2 c37)
                                replace H := Option.bind_eq_some_iff.mp H
                                obtain ⟨t215, A380, H⟩ := H
                                replace H : (if (t215 == x14_2) = true then (if 0 < (t207.length : Int) then (some ((((rd_T39 t207 0).f0) == 1) == (!x14_2))) else (none)) else (some false)) = some r := H
                                have A38 := Aside0.mk A380
                                clear A380
                                by_cases c39 : (t215 == x14_2) = true
                                · rw [if_pos c39] at H
                                  have c39b0 : (t215 == x14_2) = true := c39
                                  (try (have c39b1 : decide (t215 = x14_2) = true := by simpa using c39))
                                  (try (have c39b2 : (t215 == x14_2) = true := by simpa using c39))
                                  clear c39
                                  by_cases c40 : 0 < (t207.length : Int)
                                  · rw [if_pos c40] at H
                                    have c40b0 : decide (0 < (t207.length : Int)) = true := decide_eq_true c40
                                    have c40b1 : decide (0 < t207.length) = true := decide_eq_true (by omega)
                                    clear c40
                                    obtain rfl := Option.some.inj H
                                    obtain ⟨Ao41, co41, eo41⟩ := Kd.V_slice HO_8.out
                                    subst eo41
                                    have p213 : 0 ≤ (0 : Int) := (by omega)
                                    have q213 : 0 < (t202.length : Int) := of_decide_eq_true (by first | (with_reducible assumption) | assumption)
                                    obtain ⟨ad213, e213, hx213_0, hx213_1, hx213_2⟩ := at_T39 (Kd.V_reads' HO_8.out).2.2 0 p213 q213
                                    cases e213
                                    have qi213 : (0 < t202.length) = True := eq_true (by omega)
                                    (try rw [show ((0 : Int)).toNat = 0 from rfl] at hx213_0)
                                    (try rw [show 0 * 3 = 0 from rfl] at hx213_0)
                                    (try rw [Addr.add_zero'] at hx213_0)
                                    (try rw [show ((0 : Int)).toNat = 0 from rfl] at hx213_1)
                                    (try rw [show 0 * 3 = 0 from rfl] at hx213_1)
                                    (try rw [Addr.add_zero'] at hx213_1)
                                    (try rw [show ((0 : Int)).toNat = 0 from rfl] at hx213_2)
                                    (try rw [show 0 * 3 = 0 from rfl] at hx213_2)
                                    (try rw [Addr.add_zero'] at hx213_2)
                                    replace p213 := eq_true p213
                                    replace q213 := eq_true q213
                                    go_wp2_with (first | (go_at_call 13; (with_reducible refine (lex_Word.calls k2 (rdOf ByteArray.empty y195 (ji3)) true _ (Gl.below HG.out (by repeat (first | (with_reducible first | exact HB.out | apply below_alloc | apply pw_below_drewN | apply below_drew1) | exact HB.out))) A35.out).mono ?_); rintro e w42 ⟨rfl, hb⟩; have n0_ := Aside0.mk (Kd.R_below (by (with_reducible repeat (first | apply Kd.R_alloc | apply Kd.R_drewN | apply Kd.R_drew)); exact HO_5.out) hb); have n1_ := Aside0.mk (Kd.V_below (by (with_reducible repeat (first | apply Kd.V_alloc | apply Kd.V_drewN | apply Kd.V_drew)); exact HO_8.out) hb); have n2_ := Aside0.mk (Kd.V_below (by (with_reducible repeat (first | apply Kd.V_alloc | apply Kd.V_drewN | apply Kd.V_drew)); exact HO_11.out) hb); have n3_ := Aside0.mk (below_step (by repeat (first | (with_reducible first | exact HB.out | apply below_alloc | apply pw_below_drewN | apply below_drew1) | exact HB.out)) hb); clear HO_5; clear HO_8; clear HO_11; clear HB; have HO_5 := n0_; have HO_8 := n1_; have HO_11 := n2_; have HB := n3_; clear n0_ n1_ n2_ n3_; (try clear hb); (try clear hb2); (try clear hk); (try clear hi)) | (go_at_call 13; (with_reducible refine (lex_Word.calls k2 ((rdOf ByteArray.empty y195 (ji3)) ++ (strOfNums y199)) t215 _ (Gl.below HG.out (by repeat (first | (with_reducible first | exact HB.out | apply below_alloc | apply pw_below_drewN | apply below_drew1) | exact HB.out))) A38.out).mono ?_); rintro e w43 ⟨rfl, hb⟩; have n0_ := Aside0.mk (Kd.R_below (by (with_reducible repeat (first | apply Kd.R_alloc | apply Kd.R_drewN | apply Kd.R_drew)); exact HO_5.out) hb); have n1_ := Aside0.mk (Kd.V_below (by (with_reducible repeat (first | apply Kd.V_alloc | apply Kd.V_drewN | apply Kd.V_drew)); exact HO_8.out) hb); have n2_ := Aside0.mk (Kd.V_below (by (with_reducible repeat (first | apply Kd.V_alloc | apply Kd.V_drewN | apply Kd.V_drew)); exact HO_11.out) hb); have n3_ := Aside0.mk (below_step (by repeat (first | (with_reducible first | exact HB.out | apply below_alloc | apply pw_below_drewN | apply below_drew1) | exact HB.out)) hb); clear HO_5; clear HO_8; clear HO_11; clear HB; have HO_5 := n0_; have HO_8 := n1_; have HO_11 := n2_; have HB := n3_; clear n0_ n1_ n2_ n3_; (try clear hb); (try clear hb2); (try clear hk); (try clear hi); obtain ⟨Ao44, co44, eo44⟩ := Kd.V_slice HO_11.out; subst eo44; have p216 : 0 ≤ (0 : Int) := (by omega); have q216 : 0 < (t207.length : Int) := of_decide_eq_true (by first | (with_reducible assumption) | assumption); obtain ⟨ad216, e216, hx216_0, hx216_1, hx216_2⟩ := at_T39 (Kd.V_reads' HO_11.out).2.2 0 p216 q216; cases e216; have qi216 : (0 < t207.length) = True := eq_true (by omega); (try rw [show ((0 : Int)).toNat = 0 from rfl] at hx216_0); (try rw [show 0 * 3 = 0 from rfl] at hx216_0); (try rw [Addr.add_zero'] at hx216_0); (try rw [show ((0 : Int)).toNat = 0 from rfl] at hx216_1); (try rw [show 0 * 3 = 0 from rfl] at hx216_1); (try rw [Addr.add_zero'] at hx216_1); (try rw [show ((0 : Int)).toNat = 0 from rfl] at hx216_2); (try rw [show 0 * 3 = 0 from rfl] at hx216_2); (try rw [Addr.add_zero'] at hx216_2); replace p216 := eq_true p216; replace q216 := eq_true q216))
                                    go_ret
                                    exact ⟨by first | rfl | (simp [errW_none, errW_some] <;> rfl) | (simp only [← hji3, ← hji6]; first | rfl | (simp [errW_none, errW_some] <;> rfl)) | (simp [*, errW_none, errW_some] <;> rfl), by repeat (first | (with_reducible first | exact HB.out | apply below_alloc | apply pw_below_drewN | apply below_drew1) | exact HB.out)⟩
                                  · rw [if_neg c40] at H
                                    exact absurd H (by simp)
                                · rw [if_neg c39] at H
                                  have c39b0 : (t215 == x14_2) = false := by simpa using c39
                                  (try (have c39b1 : decide (t215 = x14_2) = false := by simpa using c39))
                                  (try (have c39b2 : (t215 == x14_2) = false := by simpa using c39))
                                  (try (have c39b3 : ¬ (t215 = x14_2) := by simpa using c39))
                                  clear c39
                                  obtain rfl := Option.some.inj H
                                  obtain ⟨Ao45, co45, eo45⟩ := Kd.V_slice HO_8.out
                                  subst eo45
                                  have p213 : 0 ≤ (0 : Int) := (by omega)
                                  have q213 : 0 < (t202.length : Int) := of_decide_eq_true (by first | (with_reducible assumption) | assumption)
                                  obtain ⟨ad213, e213, hx213_0, hx213_1, hx213_2⟩ := at_T39 (Kd.V_reads' HO_8.out).2.2 0 p213 q213
                                  cases e213
                                  have qi213 : (0 < t202.length) = True := eq_true (by omega)
                                  (try rw [show ((0 : Int)).toNat = 0 from rfl] at hx213_0)
                                  (try rw [show 0 * 3 = 0 from rfl] at hx213_0)
                                  (try rw [Addr.add_zero'] at hx213_0)
                                  (try rw [show ((0 : Int)).toNat = 0 from rfl] at hx213_1)
                                  (try rw [show 0 * 3 = 0 from rfl] at hx213_1)
                                  (try rw [Addr.add_zero'] at hx213_1)
                                  (try rw [show ((0 : Int)).toNat = 0 from rfl] at hx213_2)
                                  (try rw [show 0 * 3 = 0 from rfl] at hx213_2)
                                  (try rw [Addr.add_zero'] at hx213_2)
                                  replace p213 := eq_true p213
                                  replace q213 := eq_true q213
                                  go_wp2_with (first | (go_at_call 13; (with_reducible refine (lex_Word.calls k2 (rdOf ByteArray.empty y195 (ji3)) true _ (Gl.below HG.out (by repeat (first | (with_reducible first | exact HB.out | apply below_alloc | apply pw_below_drewN | apply below_drew1) | exact HB.out))) A35.out).mono ?_); rintro e w46 ⟨rfl, hb⟩; have n0_ := Aside0.mk (Kd.R_below (by (with_reducible repeat (first | apply Kd.R_alloc | apply Kd.R_drewN | apply Kd.R_drew)); exact HO_5.out) hb); have n1_ := Aside0.mk (Kd.V_below (by (with_reducible repeat (first | apply Kd.V_alloc | apply Kd.V_drewN | apply Kd.V_drew)); exact HO_8.out) hb); have n2_ := Aside0.mk (Kd.V_below (by (with_reducible repeat (first | apply Kd.V_alloc | apply Kd.V_drewN | apply Kd.V_drew)); exact HO_11.out) hb); have n3_ := Aside0.mk (below_step (by repeat (first | (with_reducible first | exact HB.out | apply below_alloc | apply pw_below_drewN | apply below_drew1) | exact HB.out)) hb); clear HO_5; clear HO_8; clear HO_11; clear HB; have HO_5 := n0_; have HO_8 := n1_; have HO_11 := n2_; have HB := n3_; clear n0_ n1_ n2_ n3_; (try clear hb); (try clear hb2); (try clear hk); (try clear hi)) | (go_at_call 13; (with_reducible refine (lex_Word.calls k2 ((rdOf ByteArray.empty y195 (ji3)) ++ (strOfNums y199)) t215 _ (Gl.below HG.out (by repeat (first | (with_reducible first | exact HB.out | apply below_alloc | apply pw_below_drewN | apply below_drew1) | exact HB.out))) A38.out).mono ?_); rintro e w47 ⟨rfl, hb⟩; have n0_ := Aside0.mk (Kd.R_below (by (with_reducible repeat (first | apply Kd.R_alloc | apply Kd.R_drewN | apply Kd.R_drew)); exact HO_5.out) hb); have n1_ := Aside0.mk (Kd.V_below (by (with_reducible repeat (first | apply Kd.V_alloc | apply Kd.V_drewN | apply Kd.V_drew)); exact HO_8.out) hb); have n2_ := Aside0.mk (Kd.V_below (by (with_reducible repeat (first | apply Kd.V_alloc | apply Kd.V_drewN | apply Kd.V_drew)); exact HO_11.out) hb); have n3_ := Aside0.mk (below_step (by repeat (first | (with_reducible first | exact HB.out | apply below_alloc | apply pw_below_drewN | apply below_drew1) | exact HB.out)) hb); clear HO_5; clear HO_8; clear HO_11; clear HB; have HO_5 := n0_; have HO_8 := n1_; have HO_11 := n2_; have HB := n3_; clear n0_ n1_ n2_ n3_; (try clear hb); (try clear hb2); (try clear hk); (try clear hi)))
                                  go_ret
                                  exact ⟨by first | rfl | (simp [errW_none, errW_some] <;> rfl) | (simp only [← hji3, ← hji6]; first | rfl | (simp [errW_none, errW_some] <;> rfl)) | (simp [*, errW_none, errW_some] <;> rfl), by repeat (first | (with_reducible first | exact HB.out | apply below_alloc | apply pw_below_drewN | apply below_drew1) | exact HB.out)⟩
                              · rw [if_neg c37] at H
                                exact absurd H (by simp)
                            · replace c36 := Bool.eq_false_iff.mpr c36
                              subst c36
                              have H1 : (some false) = some r := by rw [if_neg (show ¬ (false = true) by decide)] at H; exact H
                              clear H
                              have H := H1
                              clear H1
                              obtain rfl := Option.some.inj H
                              obtain ⟨Ao48, co48, eo48⟩ := Kd.V_slice HO_8.out
                              subst eo48
                              have p213 : 0 ≤ (0 : Int) := (by omega)
                              have q213 : 0 < (t202.length : Int) := of_decide_eq_true (by first | (with_reducible assumption) | assumption)
                              obtain ⟨ad213, e213, hx213_0, hx213_1, hx213_2⟩ := at_T39 (Kd.V_reads' HO_8.out).2.2 0 p213 q213
                              cases e213
                              have qi213 : (0 < t202.length) = True := eq_true (by omega)
                              (try rw [show ((0 : Int)).toNat = 0 from rfl] at hx213_0)
                              (try rw [show 0 * 3 = 0 from rfl] at hx213_0)
                              (try rw [Addr.add_zero'] at hx213_0)
                              (try rw [show ((0 : Int)).toNat = 0 from rfl] at hx213_1)
                              (try rw [show 0 * 3 = 0 from rfl] at hx213_1)
                              (try rw [Addr.add_zero'] at hx213_1)
                              (try rw [show ((0 : Int)).toNat = 0 from rfl] at hx213_2)
                              (try rw [show 0 * 3 = 0 from rfl] at hx213_2)
                              (try rw [Addr.add_zero'] at hx213_2)
                              replace p213 := eq_true p213
                              replace q213 := eq_true q213
                              go_wp2_with (first | (go_at_call 13; (with_reducible refine (lex_Word.calls k2 (rdOf ByteArray.empty y195 (ji3)) false _ (Gl.below HG.out (by repeat (first | (with_reducible first | exact HB.out | apply below_alloc | apply pw_below_drewN | apply below_drew1) | exact HB.out))) A35.out).mono ?_); rintro e w49 ⟨rfl, hb⟩; have n0_ := Aside0.mk (Kd.R_below (by (with_reducible repeat (first | apply Kd.R_alloc | apply Kd.R_drewN | apply Kd.R_drew)); exact HO_5.out) hb); have n1_ := Aside0.mk (Kd.V_below (by (with_reducible repeat (first | apply Kd.V_alloc | apply Kd.V_drewN | apply Kd.V_drew)); exact HO_8.out) hb); have n2_ := Aside0.mk (Kd.V_below (by (with_reducible repeat (first | apply Kd.V_alloc | apply Kd.V_drewN | apply Kd.V_drew)); exact HO_11.out) hb); have n3_ := Aside0.mk (below_step (by repeat (first | (with_reducible first | exact HB.out | apply below_alloc | apply pw_below_drewN | apply below_drew1) | exact HB.out)) hb); clear HO_5; clear HO_8; clear HO_11; clear HB; have HO_5 := n0_; have HO_8 := n1_; have HO_11 := n2_; have HB := n3_; clear n0_ n1_ n2_ n3_; (try clear hb); (try clear hb2); (try clear hk); (try clear hi)))
                              go_ret
                              exact ⟨by first | rfl | (simp [errW_none, errW_some] <;> rfl) | (simp only [← hji3, ← hji6]; first | rfl | (simp [errW_none, errW_some] <;> rfl)) | (simp [*, errW_none, errW_some] <;> rfl), by repeat (first | (with_reducible first | exact HB.out | apply below_alloc | apply pw_below_drewN | apply below_drew1) | exact HB.out)⟩
                          · rw [if_neg c34] at H
                            have c34b0 : (((rd_T39 t202 0).f0) == 3) = false := beq_eq_false_iff_ne.mpr c34
                            have c34b1 : (((rd_T39 t202 0).f0) != 3) = true := bne_iff_ne.mpr c34
                            obtain rfl := Option.some.inj H
                            obtain ⟨Ao50, co50, eo50⟩ := Kd.V_slice HO_8.out
                            subst eo50
                            have p213 : 0 ≤ (0 : Int) := (by omega)
                            have q213 : 0 < (t202.length : Int) := of_decide_eq_true (by first | (with_reducible assumption) | assumption)
                            obtain ⟨ad213, e213, hx213_0, hx213_1, hx213_2⟩ := at_T39 (Kd.V_reads' HO_8.out).2.2 0 p213 q213
                            cases e213
                            have qi213 : (0 < t202.length) = True := eq_true (by omega)
                            (try rw [show ((0 : Int)).toNat = 0 from rfl] at hx213_0)
                            (try rw [show 0 * 3 = 0 from rfl] at hx213_0)
                            (try rw [Addr.add_zero'] at hx213_0)
                            (try rw [show ((0 : Int)).toNat = 0 from rfl] at hx213_1)
                            (try rw [show 0 * 3 = 0 from rfl] at hx213_1)
                            (try rw [Addr.add_zero'] at hx213_1)
                            (try rw [show ((0 : Int)).toNat = 0 from rfl] at hx213_2)
                            (try rw [show 0 * 3 = 0 from rfl] at hx213_2)
                            (try rw [Addr.add_zero'] at hx213_2)
                            replace p213 := eq_true p213
                            replace q213 := eq_true q213
                            go_wp2
                            go_ret
                            exact ⟨by first | rfl | (simp [errW_none, errW_some] <;> rfl) | (simp only [← hji3, ← hji6]; first | rfl | (simp [errW_none, errW_some] <;> rfl)) | (simp [*, errW_none, errW_some] <;> rfl), by repeat (first | (with_reducible first | exact HB.out | apply below_alloc | apply pw_below_drewN | apply below_drew1) | exact HB.out)⟩
                        · rw [if_neg c33] at H
                          exact absurd H (by simp)
          · rw [if_neg c11] at H
            exact absurd H (by simp)
        · rw [if_neg c8] at H
          exact absurd H (by simp)
      · rw [if_neg c7] at H
        exact absurd H (by simp)
    · rw [if_neg c5] at H
      exact absurd H (by simp)
  · rw [if_neg c4] at H
    exact absurd H (by simp)

/-- THE ONE PURE STATEMENT of ferrulelaw02_LexWords: yours. -/
def ferrulelaw02_LexWords.Pure : Prop := ∀ (a0 : Int) (a1 : Int), (Lit.int .i64 a0).wf = true → (Lit.int .u8 a1).wf = true → ∃ k, ferrulelaw02_LexWords.f k a0 a1 = some true
theorem ferrulelaw02_LexWords.walk (P : ferrulelaw02_LexWords.Pure) (a0 : Int) (a1 : Int) (w : World) (hG : Gl w) (w0 : (Lit.int .i64 a0).wf = true) (w1 : (Lit.int .u8 a1).wf = true) :
    Calls Tryd.prog 4 #[.int .i64 a0, .int .u8 a1] w fun e w' => e = .returned (.bool true) ∧ Below w.heap.size w w' := by
  obtain ⟨k, h⟩ := P a0 a1 w0 w1
  refine (ferrulelaw02_LexWords.calls k a0 a1 true w hG h).mono ?_
  rintro e w' ⟨rfl, hd⟩
  exact ⟨rfl, hd⟩

end Go.Proofs.YtafjbebbmfihaaaDoor.P
