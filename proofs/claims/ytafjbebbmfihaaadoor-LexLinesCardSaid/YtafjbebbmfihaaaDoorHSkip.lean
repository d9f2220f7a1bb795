/- (*lexer).skip passes by blanks and remarks; no condition. -/
import Derived.Test.YtafjbebbmfihaaaDoorHPred
import Derived.Test.YtafjbebbmfihaaaDoorPx11
import Derived.Test.YtafjbebbmfihaaaDoorLRest
import Derived.Laws.Rows
namespace Go.Proofs.YtafjbebbmfihaaaDoor.P
open Go.RowKit Go.Proofs.YtafjbebbmfihaaaDoorW.PrintWords Go.Proofs.YtafjbebbmfihaaaDoorW.PrintLast Go.Proofs.YtafjbebbmfihaaaDoorW.PrintMore
set_option linter.unusedVariables false
set_option linter.unusedSimpArgs false
set_option linter.unusedSectionVars false

def slashes : ByteArray := ⟨#[47, 47]⟩
theorem spanN_eq {p : Int → Bool} {q : UInt8 → Bool} (hpq : ∀ c : UInt8, p (c.toNat : Int) = q c) (s : ByteArray) : ∀ d i, s.size - i = d → spanN p s d i = ((rest_ s i).takeWhile q).length
  | 0, i, h => by
    have hn : rest_ s i = [] := List.eq_nil_of_length_eq_zero (by rw [rest_len]; exact h)
    rw [hn]
    rfl
  | d + 1, i, h => by
    have hi : i < s.size := by omega
    obtain ⟨c, hc, hb⟩ := rest_cons s i hi
    rw [spanN, if_pos hi, hb, hpq, hc]
    cases hq : q c with
    | true => rw [if_pos rfl, List.takeWhile_cons_of_pos hq, List.length_cons, spanN_eq hpq s d (i + 1) (by omega)]
    | false => rw [if_neg (by decide), List.takeWhile_cons_of_neg (by simp [hq])]; rfl
theorem blank_is (c : UInt8) : blankB (c.toNat : Int) = isBl c := byte_all (P := fun c => blankB (c.toNat : Int) = isBl c) (by decide +kernel) c
theorem notEnd_is (c : UInt8) : notEnd (c.toNat : Int) = (c != 10) := byte_all (P := fun c => notEnd (c.toNat : Int) = (c != 10)) (by decide +kernel) c
theorem part_is (c : UInt8) : isPartB (c.toNat : Int) = isPt c := byte_all (P := fun c => isPartB (c.toNat : Int) = isPt c) (by decide +kernel) c
theorem hasPrefix_is (s p : ByteArray) : strings_HasPrefix.f s p = some (decide (s.data.toList.take p.size = p.data.toList)) := by
  have h1 : stringslite_HasPrefix.f s p = some (decide (s.data.toList.take p.size = p.data.toList)) := by
    unfold stringslite_HasPrefix.f
    have hs : s.data.toList.length = s.size := Array.length_toList
    have hp : p.data.toList.length = p.size := Array.length_toList
    by_cases h : (s.size : Int) ≥ (p.size : Int)
    · rw [if_pos h, if_pos (by omega), if_pos (by omega), Lib.extract_toList, Lib.toList_data]
      congr 1
      rw [Bool.eq_iff_iff]
      simp
    · rw [if_neg h]
      congr 1
      symm
      rw [decide_eq_false_iff_not]
      intro e
      have := congrArg List.length e
      simp only [List.length_take] at this
      omega
  unfold strings_HasPrefix.f
  rw [h1]
  rfl
theorem two_of {l : List UInt8} (h : l.take 2 = [47, 47]) : ∃ t, l = 47 :: 47 :: t := by
  match l, h with
  | a :: b :: t, h => injection h with h1 h2; injection h2 with h2 _; exact ⟨t, by rw [h1, h2]⟩
  | [a], h => cases h
  | [], h => cases h
/-- Where blanks end, from a place on. -/
def skipTo (s : ByteArray) (i : Nat) : Nat := i + skipG false (rest_ s i)
theorem skipTo_le (s : ByteArray) (i : Nat) (h : i ≤ s.size) : skipTo s i ≤ s.size := by
  have := skipG_le false (rest_ s i)
  rw [rest_len] at this
  unfold skipTo
  omega
theorem skipTo_blank (s : ByteArray) (i n : Nat) (hn : n = ((rest_ s i).takeWhile isBl).length) : skipTo s i = skipTo s (i + n) := by
  unfold skipTo
  rw [skipG_blank (rest_ s i), ← hn, rest_drop]
  omega
theorem skipTo_remark (s : ByteArray) (i m : Nat) (h : (rest_ s i).take 2 = [47, 47]) (hm : m = ((rest_ s i).takeWhile (· != 10)).length) : skipTo s i = skipTo s (i + m) ∧ 0 < m := by
  obtain ⟨t, ht⟩ := two_of h
  constructor
  · unfold skipTo
    rw [← rest_drop, hm, ht, skipG_remark, skipG_line]
    omega
  · rw [hm, ht, List.takeWhile_cons_of_pos (by decide)]
    simp
theorem skipTo_stop (s : ByteArray) (i : Nat) (h1 : ((rest_ s i).takeWhile isBl).length = 0) (h2 : (rest_ s i).take 2 ≠ [47, 47]) : skipTo s i = i := by
  unfold skipTo
  rw [skipG_stop h1 (fun t e => h2 (by rw [e]; rfl))]
  omega
/-- Only the lexer's block has turned. -/
structure KeepX (w w' : World) (xb : Nat) : Prop where
  os : w'.os = w.os
  tape : w'.tape = w.tape
  output : w'.output = w.output
  size : w'.heap.size = w.heap.size
  block : ∀ k, k ≠ xb → w'.heap[k]? = w.heap[k]?
theorem KeepX.refl (w : World) (xb : Nat) : KeepX w w xb := ⟨rfl, rfl, rfl, rfl, fun _ _ => rfl⟩
theorem KeepX.drewN {w w' : World} {xb : Nat} (h : KeepX w w' xb) (n : Nat) : KeepX w (w'.drewN n) xb := ⟨h.os, h.tape, h.output, h.size, h.block⟩
theorem KeepX.setCell {w w' : World} {xb : Nat} (h : KeepX w w' xb) (o : Nat) (u : Value) : KeepX w (w'.setCell ⟨xb, o, none⟩ u) xb :=
  ⟨h.os, h.tape, h.output, by rw [← h.size]; unfold World.setCell; simp, fun k hk => (Below.heap_setCell w' ⟨xb, o, none⟩ u k hk).trans (h.block k hk)⟩
theorem cells3 {w : World} {b : Nat} {x y z : Value} {t : TypeId} (h : w.heap[b]? = some (.cells #[x, y, z] t (0, 0))) :
    w.cell? ⟨b, 0, none⟩ = some x ∧ w.cell? ⟨b, 1, none⟩ = some y ∧ w.cell? ⟨b, 2, none⟩ = some z ∧ w.frozen? ⟨b, 1, none⟩ = false := by
  refine ⟨?_, ?_, ?_, ?_⟩
  · unfold World.cell?
    dsimp only
    rw [h]
    rfl
  · unfold World.cell?
    dsimp only
    rw [h]
    rfl
  · unfold World.cell?
    dsimp only
    rw [h]
    rfl
  · unfold World.frozen?
    dsimp only
    rw [h]
    rfl
/-- The lexer at a place. -/
def LexAt (w : World) (xb mb : Nat) (s : ByteArray) (at_ : Nat) : Prop := w.heap[xb]? = some (.cells #[.string s, .int .i64 (at_ : Int), .map (some mb)] 47 (0, 0))
theorem LexAt.move {w : World} {xb mb : Nat} {s : ByteArray} {at_ at2 : Nat} (h : LexAt w xb mb s at_) : LexAt (w.setCell ⟨xb, 1, none⟩ (.int .i64 (at2 : Int))) xb mb s at2 := by
  have := heap_setCell_same w xb 1 #[.string s, .int .i64 (at_ : Int), .map (some mb)] 47 (.int .i64 (at2 : Int)) h
  unfold LexAt
  simpa using this
theorem LexAt.move2 {w : World} {xb mb : Nat} {s : ByteArray} {i n : Nat} (h : LexAt w xb mb s i) : LexAt (w.setCell ⟨xb, 1, none⟩ (.int .i64 ((i : Int) + (n : Int)))) xb mb s (i + n) := by
  have := h.move (at2 := i + n)
  rw [show (((i + n : Nat)) : Int) = (i : Int) + (n : Int) by omega] at this
  exact this
theorem LexAt.move3 {w : World} {xb mb : Nat} {s : ByteArray} {i n m : Nat} (h : LexAt w xb mb s (i + n)) : LexAt (w.setCell ⟨xb, 1, none⟩ (.int .i64 ((i : Int) + (n : Int) + (m : Int)))) xb mb s (i + n + m) := by
  have := h.move (at2 := i + n + m)
  rw [show (((i + n + m : Nat)) : Int) = (i : Int) + (n : Int) + (m : Int) by omega] at this
  exact this
theorem LexAt.drewN {w : World} {xb mb : Nat} {s : ByteArray} {i : Nat} (k : Nat) (h : LexAt w xb mb s i) : LexAt (w.drewN k) xb mb s i := h
theorem prefix_at (s : ByteArray) (j : Nat) (b : Bool) (h : decide ((rest_ s j).take 2 = [47, 47]) = b) : strings_HasPrefix.f (s.extract j s.size) slashes = some b := by
  rw [hasPrefix_is, extract_rest, ← h]
  rfl
set_option maxHeartbeats 4000000 in
set_option maxRecDepth 100000 in
theorem skip_calls (xb mb : Nat) (s : ByteArray) (at_ : Nat) (w : World) (hL : LexAt w xb mb s at_) (hs : s.size ≤ 1000000) (ha : at_ ≤ s.size) :
    Calls Tryd.prog 17 #[ptr xb] w fun e w' => e = .returned (.tuple #[]) ∧ LexAt w' xb mb s (skipTo s at_) ∧ KeepX w w' xb := by
  have HL := Aside0.mk hL
  have HS := Aside0.mk hs
  have HA := Aside0.mk ha
  clear hL hs ha
  go_enter Tryd.func17, Tryd.ntmps17
  go_wp2
  go_loopg [2] (s.size - at_) (fun kq v2 wr => ∃ (i : Nat), Aside0 (kq = s.size - i) ∧ Aside0 (skipTo s i = skipTo s at_) ∧ Aside0 (i ≤ s.size) ∧ Aside0 (LexAt wr xb mb s i) ∧ Aside0 (KeepX w wr xb))
  case atStart => exact ⟨at_, ⟨rfl⟩, ⟨rfl⟩, HA, HL, ⟨KeepX.refl _ _⟩⟩
  case round =>
    clear HL HA
    obtain ⟨i, HQ, HE, HA, HL, HK⟩ := hrel
    obtain ⟨n, hn⟩ : ∃ n, n = spanN blankB s (s.size - i) i := ⟨_, rfl⟩
    have hnt : n = ((rest_ s i).takeWhile isBl).length := by rw [hn, spanN_eq blank_is s _ i rfl]
    have hnl := takeWhile_length_le isBl (rest_ s i)
    rw [← hnt, rest_len] at hnl
    have HN := Aside0.mk hn
    have HNT := Aside0.mk hnt
    have HNL := Aside0.mk hnl
    have hc0 := (cells3 HL.out).1
    have hc1 := (cells3 HL.out).2.1
    have hw1 : IntKind.i64.wrap ((i : Int) + (n : Int)) = (i : Int) + (n : Int) := IntWalk.i64_in _ (by have := HA.out; have := HS.out; omega)
    clear hn hnt hnl
    go_wp2_with (first | (go_at_call 26; go_must (refine (span_calls27 blankB pred27 xb s i _ (cells3 HL.out).1 (cells3 HL.out).2.1 HS.out HA.out).mono ?_; rintro e w' ⟨rfl, n1, rfl⟩; rw [← HN.out])) | fail)
    have hsz1 : (0 : Int) ≤ (i : Int) + (n : Int) := by omega
    have hsz2 : (i : Int) + (n : Int) ≤ (s.size : Int) := by have := HNL.out; have := HA.out; omega
    by_cases hp : (rest_ s (i + n)).take 2 = [47, 47]
    · have HPF := Aside0.mk (prefix_at s (i + n) true (decide_eq_true hp))
      obtain ⟨m, hm⟩ : ∃ m, m = spanN notEnd s (s.size - (i + n)) (i + n) := ⟨_, rfl⟩
      have hmt : m = ((rest_ s (i + n)).takeWhile (· != 10)).length := by rw [hm, spanN_eq notEnd_is s _ (i + n) rfl]
      have hml := takeWhile_length_le (· != 10) (rest_ s (i + n))
      rw [← hmt, rest_len] at hml
      have hr := skipTo_remark s (i + n) m hp hmt
      have HM := Aside0.mk hm
      have HML := Aside0.mk hml
      have HMP := Aside0.mk hr.2
      have HE2 : Aside0 (skipTo s (i + n + m) = skipTo s at_) := ⟨by rw [← hr.1, ← skipTo_blank s i n HNT.out]; exact HE.out⟩
      have hb : (((m : Int)) == 0) = false := by rw [beq_eq_false_iff_ne]; have := hr.2; omega
      have hw2 : IntKind.i64.wrap ((i : Int) + (n : Int) + (m : Int)) = (i : Int) + (n : Int) + (m : Int) := IntWalk.i64_in _ (by have := HA.out; have := HS.out; have := HML.out; have := HNL.out; omega)
      have hfz := (cells3 HL.out).2.2.2
      clear hm hmt hml hr hp
      go_quiet (first | (go_at_call 28; (refine (strings_HasPrefix.calls _ slashes _ _ HPF.out).mono ?_); rintro e w' ⟨rfl, ⟨nd, rfl⟩⟩; (first | exact ⟨rfl, _, World.drewN_drewN _ _ _⟩ | exact ⟨rfl, _, Eq.trans (World.drewN_drewN _ _ _) (congrArg (World.drewN _) (Nat.add_assoc _ _ _))⟩)) | fail)
      go_wp2_with (first | (go_at_call 26; go_must (refine (span_calls29 notEnd pred29 xb s (i + n) _ (cells3 (LexAt.move2 (n := n) (LexAt.drewN _ HL.out))).1 (cells3 (LexAt.move2 (n := n) (LexAt.drewN _ HL.out))).2.1 HS.out (by have := HNL.out; have := HA.out; omega)).mono ?_; rintro e w' ⟨rfl, n2, rfl⟩; rw [← HM.out])) | fail)
      go_roundg (s.size - (i + n + m))
      case measure => have := HQ.out; have := HMP.out; have := HML.out; have := HNL.out; have := HA.out; omega
      case rel => exact ⟨i + n + m, ⟨rfl⟩, HE2, ⟨by have := HML.out; have := HNL.out; have := HA.out; omega⟩, ⟨LexAt.move3 (LexAt.drewN _ (LexAt.move2 (n := n) (LexAt.drewN _ HL.out)))⟩, ⟨((((HK.out.drewN _).setCell _ _).drewN _).setCell _ _)⟩⟩
    · have HPF := Aside0.mk (prefix_at s (i + n) false (decide_eq_false hp))
      have hfz := (cells3 HL.out).2.2.2
      by_cases hz : n = 0
      · have HE2 : Aside0 (skipTo s at_ = i) := ⟨by subst hz; rw [← HE.out]; exact skipTo_stop s i HNT.out.symm hp⟩
        have hb : (((n : Int)) == 0) = true := by rw [beq_iff_eq]; omega
        clear hz hp
        go_quiet (first | (go_at_call 28; (refine (strings_HasPrefix.calls _ slashes _ _ HPF.out).mono ?_); rintro e w' ⟨rfl, ⟨nd, rfl⟩⟩; (first | exact ⟨rfl, _, World.drewN_drewN _ _ _⟩ | exact ⟨rfl, _, Eq.trans (World.drewN_drewN _ _ _) (congrArg (World.drewN _) (Nat.add_assoc _ _ _))⟩)) | fail)
        go_wp2
        refine bodyPost_ret (results_none rfl _ _ _) rfl ?_
        exact ⟨rfl, by rw [HE2.out]; exact HL.out, HK.out.drewN _⟩
      · have HE2 : Aside0 (skipTo s (i + n) = skipTo s at_) := ⟨by rw [← skipTo_blank s i n HNT.out]; exact HE.out⟩
        have hb : (((n : Int)) == 0) = false := by rw [beq_eq_false_iff_ne]; omega
        have HZ : Aside0 (n ≠ 0) := ⟨hz⟩
        clear hz hp
        go_quiet (first | (go_at_call 28; (refine (strings_HasPrefix.calls _ slashes _ _ HPF.out).mono ?_); rintro e w' ⟨rfl, ⟨nd, rfl⟩⟩; (first | exact ⟨rfl, _, World.drewN_drewN _ _ _⟩ | exact ⟨rfl, _, Eq.trans (World.drewN_drewN _ _ _) (congrArg (World.drewN _) (Nat.add_assoc _ _ _))⟩)) | fail)
        go_wp2
        go_roundg (s.size - (i + n))
        case measure => have := HQ.out; have := HZ.out; have := HNL.out; omega
        case rel => exact ⟨i + n, ⟨rfl⟩, HE2, ⟨by have := HNL.out; have := HA.out; omega⟩, ⟨LexAt.move2 HL.out⟩, ⟨(HK.out.drewN _).setCell _ _⟩⟩
end Go.Proofs.YtafjbebbmfihaaaDoor.P
