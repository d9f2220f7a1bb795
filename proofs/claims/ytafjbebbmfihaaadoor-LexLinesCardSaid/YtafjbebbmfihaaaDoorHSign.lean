/- (*lexer).sign: how long the sign is that stands here; no condition. -/
import Derived.Test.YtafjbebbmfihaaaDoorHSkip
namespace Go.Proofs.YtafjbebbmfihaaaDoor.P
open Go.RowKit Go.Proofs.YtafjbebbmfihaaaDoorW.PrintWords Go.Proofs.YtafjbebbmfihaaaDoorW.PrintLast Go.Proofs.YtafjbebbmfihaaaDoorW.PrintMore
set_option linter.unusedVariables false
set_option linter.unusedSimpArgs false
set_option linter.unusedSectionVars false
theorem prefix_two (s : ByteArray) (j : Nat) (x : List UInt8) (h : x.length = 2) : strings_HasPrefix.f (s.extract j s.size) ⟨x.toArray⟩ = some (decide ((rest_ s j).take 2 = x)) := by
  rw [hasPrefix_is, extract_rest]
  have h1 : (⟨x.toArray⟩ : ByteArray).size = 2 := h
  rw [h1]
theorem signL_two {l x : List UInt8} (h : l.take 2 = x) (hx : x ∈ signs2) : signL l = 2 := by
  unfold signL
  rw [if_pos (by rw [h]; exact hx)]
theorem no_more {l y : List UInt8} {S : List (List UInt8)} {j : Nat} (h : ∀ x ∈ S.take j, l ≠ x) (hj : S[j]? = some y) (hx : ¬ l = y) : ∀ x ∈ S.take (j + 1), l ≠ x := by
  intro x hx2
  rw [List.take_add_one, hj] at hx2
  rcases List.mem_append.1 hx2 with h2 | h2
  · exact h x h2
  · have : x = y := by simpa using h2
    rw [this]
    exact hx
theorem index_is (c : UInt8) : decide (0 ≤ Lib.indexByte signs1 c) = decide (c ∈ signs1) := byte_all (P := fun c => decide (0 ≤ Lib.indexByte signs1 c) = decide (c ∈ signs1)) (by decide +kernel) c
theorem index11 (j : Nat) (h : j < 11) : ∃ x : List UInt8, signs2[j]? = some x ∧ x ∈ signs2 ∧ x.length = 2 ∧ ∀ w : World, (Instr.index 59 (.agg #[.string ⟨#[45, 62]⟩, .string ⟨#[61, 62]⟩, .string ⟨#[58, 58]⟩, .string ⟨#[61, 61]⟩, .string ⟨#[33, 61]⟩, .string ⟨#[60, 61]⟩, .string ⟨#[62, 61]⟩, .string ⟨#[38, 38]⟩, .string ⟨#[124, 124]⟩, .string ⟨#[60, 60]⟩, .string ⟨#[62, 62]⟩]) (.int .i64 (j : Int))).run Tryd.prog w = .ok (.string ⟨x.toArray⟩) w := by
  have hj : j = 0 ∨ j = 1 ∨ j = 2 ∨ j = 3 ∨ j = 4 ∨ j = 5 ∨ j = 6 ∨ j = 7 ∨ j = 8 ∨ j = 9 ∨ j = 10 := by omega
  rcases hj with rfl | rfl | rfl | rfl | rfl | rfl | rfl | rfl | rfl | rfl | rfl
  all_goals
    refine ⟨_, rfl, by decide, rfl, fun w => ?_⟩
    simp [Instr.index, asIntOf, run_underlying Tryd.underlying59, go_sem]
theorem sign_end {l : List UInt8} (h : ∀ x ∈ signs2.take 11, l.take 2 ≠ x) {c : UInt8} {t : List UInt8} (hl : l = c :: t) : signL l = if c ∈ signs1 then 1 else 0 := by
  have h2 : l.take 2 ∉ signs2 := fun hx => h _ (by rw [List.take_of_length_le (by decide)]; exact hx) rfl
  unfold signL
  rw [if_neg h2, hl]
  by_cases hc : c ∈ signs1
  · rw [if_pos hc, if_pos ⟨c, rfl, hc⟩]
  · rw [if_neg hc, if_neg (by rintro ⟨d, hd, hs⟩; injection hd with hd; subst hd; exact hc hs)]
set_option maxHeartbeats 8000000 in
set_option maxRecDepth 100000 in
theorem sign_calls (xb mb : Nat) (s : ByteArray) (at_ : Nat) (w : World) (hL : LexAt w xb mb s at_) (hs : s.size ≤ 1000000) (ha : at_ < s.size) :
    Calls Tryd.prog 31 #[ptr xb] w fun e w' => e = .returned (.int .i64 (signL (rest_ s at_) : Nat)) ∧ ∃ n, w' = w.drewN n := by
  have HL := Aside0.mk hL
  have HS := Aside0.mk hs
  have HA := Aside0.mk ha
  have hc0 := (cells3 hL).1
  have hc1 := (cells3 hL).2.1
  have hsz1 : (0 : Int) ≤ (at_ : Int) := by omega
  have hsz2 : (at_ : Int) ≤ (s.size : Int) := by omega
  clear hL hs ha
  go_enter Tryd.func31, Tryd.ntmps31
  go_wp2
  go_quiet (fail)
  go_wp2
  go_loopw [16] (fun v16 wr => ∃ (j nn : Nat), v16 = .int .i64 (j : Int) ∧ wr = w.drewN nn ∧ Aside0 (j ≤ 11) ∧ Aside0 (∀ x ∈ signs2.take j, (rest_ s at_).take 2 ≠ x)) (fun v16 _ => 11 - (intOf v16).toNat)
  case atStart => exact ⟨0, _, rfl, rfl, ⟨by decide⟩, ⟨fun x hx => by cases hx⟩⟩
  case round =>
    obtain ⟨j, nn, rfl, rfl, HJ, HN⟩ := hrel
    by_cases hlt : j < 11
    · obtain ⟨x, hxj, hxm, hxl, hk⟩ := index11 j hlt
      have hd : decide ((j : Int) < 11) = true := decide_eq_true (by omega)
      have hw1 : IntKind.i64.wrap ((j : Int) + 1) = (j : Int) + 1 := IntWalk.i64_in _ (by omega)
      have HPX := prefix_two s at_ x hxl
      have HLT := Aside0.mk hlt
      have hsz : (⟨x.toArray⟩ : ByteArray).size = 2 := hxl
      by_cases hx : (rest_ s at_).take 2 = x
      · rw [decide_eq_true hx] at HPX
        have HS2 : Aside0 ((signL (rest_ s at_) : Nat) = (2 : Int)) := ⟨by rw [signL_two hx hxm]; rfl⟩
        have HPF := Aside0.mk HPX
        clear hx HPX hlt hxj hxm hxl
        go_wp2_with (first | (go_at_call 28; go_must ((refine (strings_HasPrefix.calls _ _ _ _ HPF.out).mono ?_); rintro e w' ⟨rfl, ⟨nd, rfl⟩⟩)))
        go_ret
        exact ⟨by rw [HS2.out]; rfl, _, rfl⟩
      · rw [decide_eq_false hx] at HPX
        have HPF := Aside0.mk HPX
        have HN2 : Aside0 (∀ x ∈ signs2.take (j + 1), (rest_ s at_).take 2 ≠ x) := ⟨no_more HN.out hxj hx⟩
        clear hx HPX hlt hxj hxm hxl hsz
        go_wp2_with (first | (go_at_call 28; go_must ((refine (strings_HasPrefix.calls _ _ _ _ HPF.out).mono ?_); rintro e w' ⟨rfl, ⟨nd, rfl⟩⟩)))
        go_roundw
        case measure => have := HLT.out; simp [intOf]; omega
        case rel => exact ⟨j + 1, _, by go_num, rfl, ⟨by have := HLT.out; omega⟩, HN2⟩
    · obtain rfl : j = 11 := by have := HJ.out; omega
      clear hlt
      have hd : decide (((11 : Nat) : Int) < 11) = false := by decide
      have htl := extract_rest s at_
      have hts : 0 < (s.extract at_ s.size).size := by
        have := rest_len s at_
        rw [← htl, Array.length_toList] at this
        show 0 < (s.extract at_ s.size).data.size
        have := HA.out
        omega
      have HTL := Aside0.mk htl
      obtain ⟨t, ht⟩ : ∃ t, t = s.extract at_ s.size := ⟨_, rfl⟩
      rw [← ht]
      have HT := Aside0.mk ht
      rw [← ht] at hts
      clear htl ht
      obtain ⟨c, hc, hb⟩ := rest_cons t 0 hts
      have hx0 : ∀ h : 0 < t.size, (((t[0]'h).toNat : Nat) : Int) = (c.toNat : Int) := fun h => by
        rw [← hb]
        exact bt_at t 0 h
      have hl : rest_ s at_ = c :: rest_ t 1 := by rw [← HTL.out, ← HT.out, ← hc]; rfl
      have hse := sign_end HN.out hl
      have q0 : (0 : Int) < (t.size : Int) := by omega
      replace q0 := eq_true q0
      have hix : ∃ v : Int, Lib.indexByte (⟨#[40, 41, 123, 125, 91, 93, 60, 62, 43, 45, 42, 47, 37, 38, 124, 94, 33, 61, 44, 59, 58, 46]⟩ : ByteArray).data.toList ((c.toNat : Int)).toNat.toUInt8 = v ∧ decide (0 ≤ v) = decide (c ∈ signs1) := by
        refine ⟨_, rfl, ?_⟩
        rw [← index_is c]
        have : ((c.toNat : Int)).toNat.toUInt8 = c := by simp
        rw [this]
        rfl
      obtain ⟨v, hv, hdv⟩ := hix
      have HV := Aside0.mk hv
      clear hv hb hc hl
      by_cases hcs : c ∈ signs1
      · rw [decide_eq_true hcs] at hdv
        rw [if_pos hcs] at hse
        have HSE := Aside0.mk hse
        clear hse hcs
        go_wp2_with (first | (go_at_call 36; go_must ((refine (Tryd.strings_IndexByte _ _ _).mono ?_); rintro e w' ⟨rfl, rfl⟩; rw [HV.out])))
        go_ret
        exact ⟨by rw [HSE.out]; rfl, _, rfl⟩
      · rw [decide_eq_false hcs] at hdv
        rw [if_neg hcs] at hse
        have HSE := Aside0.mk hse
        clear hse hcs
        go_wp2_with (first | (go_at_call 36; go_must ((refine (Tryd.strings_IndexByte _ _ _).mono ?_); rintro e w' ⟨rfl, rfl⟩; rw [HV.out])))
        go_ret
        exact ⟨by rw [HSE.out]; rfl, _, rfl⟩
end Go.Proofs.YtafjbebbmfihaaaDoor.P
