/- (*lexer).span: how many bytes of a kind stand from here on; no condition. -/
import Derived.Test.YtafjbebbmfihaaaDoorHWord
namespace Go.Proofs.YtafjbebbmfihaaaDoor.P
open Go.RowKit Go.Proofs.YtafjbebbmfihaaaDoorW.PrintWords Go.Proofs.YtafjbebbmfihaaaDoorW.PrintLast Go.Proofs.YtafjbebbmfihaaaDoorW.PrintMore
set_option linter.unusedVariables false
set_option linter.unusedSimpArgs false
set_option linter.unusedSectionVars false
abbrev ptr (b : Nat) : Value := .pointer (some ⟨b, 0, none⟩)
/-- How many bytes of a kind stand from at on: at most d. -/
def spanN (p : Int → Bool) (s : ByteArray) : Nat → Nat → Nat
  | 0, _ => 0
  | d + 1, i => if i < s.size then (if p (bt s (i : Int)) = true then spanN p s d (i + 1) + 1 else 0) else 0
/-- A func value that tells of a byte, and only reads. -/
structure Pred (F : Nat) (p : Int → Bool) : Prop where
  enters : ∀ (args : Array Value) (w : World), (callFunc F args).run Tryd.prog w = .ok (.enter F args) w
  call : ∀ (c : Int) (w : World), 0 ≤ c → c ≤ 255 → Calls Tryd.prog F #[.int .u8 c] w fun e w' => e = .returned (.bool (p c)) ∧ ∃ n, w' = w.drewN n
set_option maxHeartbeats 4000000 in
set_option maxRecDepth 100000 in
theorem span_calls30 (p : Int → Bool) (hF : Pred 30 p) (xb : Nat) (s : ByteArray) (at_ : Nat) (w : World) (h0 : w.cell? ⟨xb, 0, none⟩ = some (.string s)) (h1 : w.cell? ⟨xb, 1, none⟩ = some (.int .i64 (at_ : Int))) (hs : s.size ≤ 1000000) (ha : at_ ≤ s.size) :
    Calls Tryd.prog 26 #[ptr xb, .func (.func 30) #[] #[]] w fun e w' => e = .returned (.int .i64 (spanN p s (s.size - at_) at_ : Nat)) ∧ ∃ n, w' = w.drewN n := by
  have HF := Aside0.mk hF
  have HS := Aside0.mk hs
  have HA := Aside0.mk ha
  have hen := hF.enters
  clear hF hs ha
  go_enter Tryd.func26, Tryd.ntmps26
  go_wp2
  go_loopw [5] (fun v5 wr => ∃ (n nn : Nat), v5 = .int .i64 (n : Int) ∧ wr = w.drewN nn ∧ Aside0 (at_ + n ≤ s.size) ∧ Aside0 (n + spanN p s (s.size - (at_ + n)) (at_ + n) = spanN p s (s.size - at_) at_)) (fun v5 _ => s.size - (intOf v5).toNat)
  case atStart => exact ⟨0, 0, rfl, rfl, ⟨by have := HA.out; omega⟩, ⟨by simp⟩⟩
  case round =>
    obtain ⟨n, nn, rfl, rfl, HN, HSP⟩ := hrel
    by_cases hlt : at_ + n < s.size
    · have hd : decide ((at_ : Int) + (n : Int) < (s.size : Int)) = true := decide_eq_true (by omega)
      have hw1 : IntKind.i64.wrap ((at_ : Int) + (n : Int)) = (at_ : Int) + (n : Int) := IntWalk.i64_in _ (by have := HN.out; have := HS.out; omega)
      have hw2 : IntKind.i64.wrap ((n : Int) + 1) = (n : Int) + 1 := IntWalk.i64_in _ (by have := HN.out; have := HS.out; omega)
      have hi0 : (0 : Int) ≤ (at_ : Int) + (n : Int) := by omega
      have hi1 : (at_ : Int) + (n : Int) < (s.size : Int) := by omega
      have hbt := bt_at s ((at_ : Int) + (n : Int))
      have hbr := bt_range s ((at_ : Int) + (n : Int))
      have hsp := HSP.out
      rw [show s.size - (at_ + n) = (s.size - (at_ + n) - 1) + 1 by omega, spanN, if_pos hlt, show (((at_ + n : Nat)) : Int) = (at_ : Int) + (n : Int) by omega] at hsp
      have HLT := Aside0.mk hlt
      have HBR := Aside0.mk hbr
      clear hbr HSP hlt
      by_cases hp : p (bt s ((at_ : Int) + (n : Int))) = true
      · rw [if_pos hp] at hsp
        have HSP2 := Aside0.mk hsp
        clear hsp
        go_wp2_with fail
        go_quiet (first | (go_at_call 30; (refine (HF.out.call _ _ HBR.out.1 HBR.out.2).mono ?_); rintro e w' ⟨rfl, ⟨nd, rfl⟩⟩; (first | exact ⟨rfl, _, World.drewN_drewN _ _ _⟩ | exact ⟨rfl, _, Eq.trans (World.drewN_drewN _ _ _) (congrArg (World.drewN _) (Nat.add_assoc _ _ _))⟩)) | fail)
        go_wp2
        go_roundw
        case measure => have := HLT.out; simp [intOf]; omega
        case rel => exact ⟨n + 1, _, by go_num, rfl, ⟨by have := HLT.out; omega⟩, ⟨by have := HSP2.out; have := HLT.out; rw [show at_ + (n + 1) = at_ + n + 1 by omega, show s.size - (at_ + n + 1) = s.size - (at_ + n) - 1 by omega]; omega⟩⟩
      · rw [if_neg hp] at hsp
        have hp2 : p (bt s ((at_ : Int) + (n : Int))) = false := by simpa using hp
        have HSP2 := Aside0.mk hsp
        clear hsp hp
        go_wp2_with fail
        go_quiet (first | (go_at_call 30; (refine (HF.out.call _ _ HBR.out.1 HBR.out.2).mono ?_); rintro e w' ⟨rfl, ⟨nd, rfl⟩⟩; (first | exact ⟨rfl, _, World.drewN_drewN _ _ _⟩ | exact ⟨rfl, _, Eq.trans (World.drewN_drewN _ _ _) (congrArg (World.drewN _) (Nat.add_assoc _ _ _))⟩)) | fail)
        go_wp2
        go_ret
        exact ⟨by rw [← HSP2.out]; rfl, _, World.drewN_drewN _ _ _⟩
    · have hd : decide ((at_ : Int) + (n : Int) < (s.size : Int)) = false := decide_eq_false (by omega)
      have hw1 : IntKind.i64.wrap ((at_ : Int) + (n : Int)) = (at_ : Int) + (n : Int) := IntWalk.i64_in _ (by have := HN.out; have := HS.out; omega)
      have hz : s.size - (at_ + n) = 0 := by omega
      have hsp := HSP.out
      rw [hz] at hsp
      have HSP2 := Aside0.mk hsp
      clear hz hsp HSP hlt
      go_wp2_with fail
      go_quiet (fail)
      go_wp2
      go_ret
      exact ⟨by rw [← HSP2.out]; rfl, _, World.drewN_drewN _ _ _⟩
set_option maxHeartbeats 4000000 in
set_option maxRecDepth 100000 in
theorem span_calls27 (p : Int → Bool) (hF : Pred 27 p) (xb : Nat) (s : ByteArray) (at_ : Nat) (w : World) (h0 : w.cell? ⟨xb, 0, none⟩ = some (.string s)) (h1 : w.cell? ⟨xb, 1, none⟩ = some (.int .i64 (at_ : Int))) (hs : s.size ≤ 1000000) (ha : at_ ≤ s.size) :
    Calls Tryd.prog 26 #[ptr xb, .func (.func 27) #[] #[]] w fun e w' => e = .returned (.int .i64 (spanN p s (s.size - at_) at_ : Nat)) ∧ ∃ n, w' = w.drewN n := by
  have HF := Aside0.mk hF
  have HS := Aside0.mk hs
  have HA := Aside0.mk ha
  have hen := hF.enters
  clear hF hs ha
  go_enter Tryd.func26, Tryd.ntmps26
  go_wp2
  go_loopw [5] (fun v5 wr => ∃ (n nn : Nat), v5 = .int .i64 (n : Int) ∧ wr = w.drewN nn ∧ Aside0 (at_ + n ≤ s.size) ∧ Aside0 (n + spanN p s (s.size - (at_ + n)) (at_ + n) = spanN p s (s.size - at_) at_)) (fun v5 _ => s.size - (intOf v5).toNat)
  case atStart => exact ⟨0, 0, rfl, rfl, ⟨by have := HA.out; omega⟩, ⟨by simp⟩⟩
  case round =>
    obtain ⟨n, nn, rfl, rfl, HN, HSP⟩ := hrel
    by_cases hlt : at_ + n < s.size
    · have hd : decide ((at_ : Int) + (n : Int) < (s.size : Int)) = true := decide_eq_true (by omega)
      have hw1 : IntKind.i64.wrap ((at_ : Int) + (n : Int)) = (at_ : Int) + (n : Int) := IntWalk.i64_in _ (by have := HN.out; have := HS.out; omega)
      have hw2 : IntKind.i64.wrap ((n : Int) + 1) = (n : Int) + 1 := IntWalk.i64_in _ (by have := HN.out; have := HS.out; omega)
      have hi0 : (0 : Int) ≤ (at_ : Int) + (n : Int) := by omega
      have hi1 : (at_ : Int) + (n : Int) < (s.size : Int) := by omega
      have hbt := bt_at s ((at_ : Int) + (n : Int))
      have hbr := bt_range s ((at_ : Int) + (n : Int))
      have hsp := HSP.out
      rw [show s.size - (at_ + n) = (s.size - (at_ + n) - 1) + 1 by omega, spanN, if_pos hlt, show (((at_ + n : Nat)) : Int) = (at_ : Int) + (n : Int) by omega] at hsp
      have HLT := Aside0.mk hlt
      have HBR := Aside0.mk hbr
      clear hbr HSP hlt
      by_cases hp : p (bt s ((at_ : Int) + (n : Int))) = true
      · rw [if_pos hp] at hsp
        have HSP2 := Aside0.mk hsp
        clear hsp
        go_wp2_with fail
        go_quiet (first | (go_at_call 27; (refine (HF.out.call _ _ HBR.out.1 HBR.out.2).mono ?_); rintro e w' ⟨rfl, ⟨nd, rfl⟩⟩; (first | exact ⟨rfl, _, World.drewN_drewN _ _ _⟩ | exact ⟨rfl, _, Eq.trans (World.drewN_drewN _ _ _) (congrArg (World.drewN _) (Nat.add_assoc _ _ _))⟩)) | fail)
        go_wp2
        go_roundw
        case measure => have := HLT.out; simp [intOf]; omega
        case rel => exact ⟨n + 1, _, by go_num, rfl, ⟨by have := HLT.out; omega⟩, ⟨by have := HSP2.out; have := HLT.out; rw [show at_ + (n + 1) = at_ + n + 1 by omega, show s.size - (at_ + n + 1) = s.size - (at_ + n) - 1 by omega]; omega⟩⟩
      · rw [if_neg hp] at hsp
        have hp2 : p (bt s ((at_ : Int) + (n : Int))) = false := by simpa using hp
        have HSP2 := Aside0.mk hsp
        clear hsp hp
        go_wp2_with fail
        go_quiet (first | (go_at_call 27; (refine (HF.out.call _ _ HBR.out.1 HBR.out.2).mono ?_); rintro e w' ⟨rfl, ⟨nd, rfl⟩⟩; (first | exact ⟨rfl, _, World.drewN_drewN _ _ _⟩ | exact ⟨rfl, _, Eq.trans (World.drewN_drewN _ _ _) (congrArg (World.drewN _) (Nat.add_assoc _ _ _))⟩)) | fail)
        go_wp2
        go_ret
        exact ⟨by rw [← HSP2.out]; rfl, _, World.drewN_drewN _ _ _⟩
    · have hd : decide ((at_ : Int) + (n : Int) < (s.size : Int)) = false := decide_eq_false (by omega)
      have hw1 : IntKind.i64.wrap ((at_ : Int) + (n : Int)) = (at_ : Int) + (n : Int) := IntWalk.i64_in _ (by have := HN.out; have := HS.out; omega)
      have hz : s.size - (at_ + n) = 0 := by omega
      have hsp := HSP.out
      rw [hz] at hsp
      have HSP2 := Aside0.mk hsp
      clear hz hsp HSP hlt
      go_wp2_with fail
      go_quiet (fail)
      go_wp2
      go_ret
      exact ⟨by rw [← HSP2.out]; rfl, _, World.drewN_drewN _ _ _⟩
set_option maxHeartbeats 4000000 in
set_option maxRecDepth 100000 in
theorem span_calls29 (p : Int → Bool) (hF : Pred 29 p) (xb : Nat) (s : ByteArray) (at_ : Nat) (w : World) (h0 : w.cell? ⟨xb, 0, none⟩ = some (.string s)) (h1 : w.cell? ⟨xb, 1, none⟩ = some (.int .i64 (at_ : Int))) (hs : s.size ≤ 1000000) (ha : at_ ≤ s.size) :
    Calls Tryd.prog 26 #[ptr xb, .func (.func 29) #[] #[]] w fun e w' => e = .returned (.int .i64 (spanN p s (s.size - at_) at_ : Nat)) ∧ ∃ n, w' = w.drewN n := by
  have HF := Aside0.mk hF
  have HS := Aside0.mk hs
  have HA := Aside0.mk ha
  have hen := hF.enters
  clear hF hs ha
  go_enter Tryd.func26, Tryd.ntmps26
  go_wp2
  go_loopw [5] (fun v5 wr => ∃ (n nn : Nat), v5 = .int .i64 (n : Int) ∧ wr = w.drewN nn ∧ Aside0 (at_ + n ≤ s.size) ∧ Aside0 (n + spanN p s (s.size - (at_ + n)) (at_ + n) = spanN p s (s.size - at_) at_)) (fun v5 _ => s.size - (intOf v5).toNat)
  case atStart => exact ⟨0, 0, rfl, rfl, ⟨by have := HA.out; omega⟩, ⟨by simp⟩⟩
  case round =>
    obtain ⟨n, nn, rfl, rfl, HN, HSP⟩ := hrel
    by_cases hlt : at_ + n < s.size
    · have hd : decide ((at_ : Int) + (n : Int) < (s.size : Int)) = true := decide_eq_true (by omega)
      have hw1 : IntKind.i64.wrap ((at_ : Int) + (n : Int)) = (at_ : Int) + (n : Int) := IntWalk.i64_in _ (by have := HN.out; have := HS.out; omega)
      have hw2 : IntKind.i64.wrap ((n : Int) + 1) = (n : Int) + 1 := IntWalk.i64_in _ (by have := HN.out; have := HS.out; omega)
      have hi0 : (0 : Int) ≤ (at_ : Int) + (n : Int) := by omega
      have hi1 : (at_ : Int) + (n : Int) < (s.size : Int) := by omega
      have hbt := bt_at s ((at_ : Int) + (n : Int))
      have hbr := bt_range s ((at_ : Int) + (n : Int))
      have hsp := HSP.out
      rw [show s.size - (at_ + n) = (s.size - (at_ + n) - 1) + 1 by omega, spanN, if_pos hlt, show (((at_ + n : Nat)) : Int) = (at_ : Int) + (n : Int) by omega] at hsp
      have HLT := Aside0.mk hlt
      have HBR := Aside0.mk hbr
      clear hbr HSP hlt
      by_cases hp : p (bt s ((at_ : Int) + (n : Int))) = true
      · rw [if_pos hp] at hsp
        have HSP2 := Aside0.mk hsp
        clear hsp
        go_wp2_with fail
        go_quiet (first | (go_at_call 29; (refine (HF.out.call _ _ HBR.out.1 HBR.out.2).mono ?_); rintro e w' ⟨rfl, ⟨nd, rfl⟩⟩; (first | exact ⟨rfl, _, World.drewN_drewN _ _ _⟩ | exact ⟨rfl, _, Eq.trans (World.drewN_drewN _ _ _) (congrArg (World.drewN _) (Nat.add_assoc _ _ _))⟩)) | fail)
        go_wp2
        go_roundw
        case measure => have := HLT.out; simp [intOf]; omega
        case rel => exact ⟨n + 1, _, by go_num, rfl, ⟨by have := HLT.out; omega⟩, ⟨by have := HSP2.out; have := HLT.out; rw [show at_ + (n + 1) = at_ + n + 1 by omega, show s.size - (at_ + n + 1) = s.size - (at_ + n) - 1 by omega]; omega⟩⟩
      · rw [if_neg hp] at hsp
        have hp2 : p (bt s ((at_ : Int) + (n : Int))) = false := by simpa using hp
        have HSP2 := Aside0.mk hsp
        clear hsp hp
        go_wp2_with fail
        go_quiet (first | (go_at_call 29; (refine (HF.out.call _ _ HBR.out.1 HBR.out.2).mono ?_); rintro e w' ⟨rfl, ⟨nd, rfl⟩⟩; (first | exact ⟨rfl, _, World.drewN_drewN _ _ _⟩ | exact ⟨rfl, _, Eq.trans (World.drewN_drewN _ _ _) (congrArg (World.drewN _) (Nat.add_assoc _ _ _))⟩)) | fail)
        go_wp2
        go_ret
        exact ⟨by rw [← HSP2.out]; rfl, _, World.drewN_drewN _ _ _⟩
    · have hd : decide ((at_ : Int) + (n : Int) < (s.size : Int)) = false := decide_eq_false (by omega)
      have hw1 : IntKind.i64.wrap ((at_ : Int) + (n : Int)) = (at_ : Int) + (n : Int) := IntWalk.i64_in _ (by have := HN.out; have := HS.out; omega)
      have hz : s.size - (at_ + n) = 0 := by omega
      have hsp := HSP.out
      rw [hz] at hsp
      have HSP2 := Aside0.mk hsp
      clear hz hsp HSP hlt
      go_wp2_with fail
      go_quiet (fail)
      go_wp2
      go_ret
      exact ⟨by rw [← HSP2.out]; rfl, _, World.drewN_drewN _ _ _⟩
end Go.Proofs.YtafjbebbmfihaaaDoor.P
