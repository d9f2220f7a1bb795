/- lex.Lex tells a text's tokens, or what is wrong first; the library's table of blanks is as it was laid. -/
import Derived.Test.YtafjbebbmfihaaaDoorHNext
import Derived.Test.YtafjbebbmfihaaaDoorLPure
namespace Go.Proofs.YtafjbebbmfihaaaDoor.P
open Go.RowKit Go.Proofs.YtafjbebbmfihaaaDoorW.PrintWords Go.Proofs.YtafjbebbmfihaaaDoorW.PrintLast Go.Proofs.YtafjbebbmfihaaaDoorW.PrintMore
set_option linter.unusedVariables false
set_option linter.unusedSimpArgs false
set_option linter.unusedSectionVars false
def lex_Lex.f (_k : Nat) (s : ByteArray) : Option ((List S39) × Int × Int) := some (lexP s)
theorem lex_Lex.mono : ∀ s k, LeO (lex_Lex.f k s) (lex_Lex.f (k + 1) s) := fun _ _ => LeO.refl _
def preE (acc : List S39) : Except (Nat × Int) (List S39) → Except (Nat × Int) (List S39)
  | .ok ts => .ok (acc ++ ts)
  | .error e => .error e
theorem lexA_skip (l : List UInt8) (at_ : Nat) : lexA l at_ = lexA (l.drop (skipG false l)) (at_ + skipG false l) := by
  rw [lexA_eq l, lexA_eq (l.drop (skipG false l)), skipG_idem]
  rfl
theorem lexA_at (s : ByteArray) (i : Nat) : lexA (rest_ s i) i = lexA (rest_ s (skipTo s i)) (skipTo s i) := by
  rw [lexA_skip, rest_drop]
  rfl
theorem skipTo_idem (s : ByteArray) (i : Nat) : skipG false (rest_ s (skipTo s i)) = 0 := by
  unfold skipTo
  rw [← rest_drop]
  exact skipG_idem false _
theorem KeepX.grown {w w' : World} {xb : Nat} (h : KeepX w w' xb) : w.grownBy w' (some xb) := ⟨h.os, h.tape, h.output, Nat.le_of_eq h.size.symm, fun k _ hne => h.block k (fun e => hne (by rw [e]))⟩
theorem rest_ne {s : ByteArray} {i : Nat} (h : i < s.size) : rest_ s i ≠ [] := by
  obtain ⟨c, hc, _⟩ := rest_cons s i h
  rw [hc]
  simp
theorem step_ok {s : ByteArray} {i n : Nat} {kind : Int} (acc : List S39) (h : i < s.size) (hs : skipG false (rest_ s i) = 0) (ht : tokL (rest_ s i) = .ok (kind, n)) :
    preE acc (lexA (rest_ s i) i) = preE (acc ++ [(⟨kind, s.extract i (i + n), (i : Int)⟩ : S39)]) (lexA (rest_ s (skipTo s (i + n))) (skipTo s (i + n))) := by
  have e : (s.extract i (i + n)) = ⟨((rest_ s i).take n).toArray⟩ := bytes_ext (by rw [extract_list, Nat.add_sub_cancel_left])
  rw [lexA_tok i (l := rest_ s i) (kind := kind) (n := n) (by rw [hs]; exact rest_ne h) (by rw [hs]; exact ht), hs]
  simp only [List.drop_zero, Nat.add_zero]
  rw [rest_drop, lexA_at s (i + n), e]
  cases lexA (rest_ s (skipTo s (i + n))) (skipTo s (i + n)) with
  | error e => rfl
  | ok ts => simp [preE, tokOf]
theorem step_err {s : ByteArray} {i : Nat} {er : Int} (acc : List S39) (h : i < s.size) (hs : skipG false (rest_ s i) = 0) (ht : tokL (rest_ s i) = .error er) : preE acc (lexA (rest_ s i) i) = .error (i, er) := by
  rw [lexA_bad i (l := rest_ s i) (by rw [hs]; exact rest_ne h) (by rw [hs]; exact ht), hs]
  rfl
theorem step_end {s : ByteArray} {i : Nat} (acc : List S39) (h : s.size ≤ i) : preE acc (lexA (rest_ s i) i) = .ok acc := by
  rw [lexA_done i (by rw [rest_nil s i h]; rfl)]
  simp [preE]
theorem tok_err {l : List UInt8} {er : Int} (h : tokL l = .error er) : er = 20 ∨ er = 21 := by
  unfold tokL at h
  repeat' split at h
  all_goals first | (cases h; done) | (cases h; exact Or.inl rfl) | (cases h; exact Or.inr rfl)
theorem map_ne_row {w : World} {mb base : Nat} {ok : Nat → Prop} {l : List (ByteArray × Value)} {v : Value} {xs : List S39} (hM : TMap w mb l) (hR : Kd.R k39 39 w base ok v xs) : some mb ≠ v.ownBlock := fun e => by
  obtain ⟨inner, ho⟩ := Kd.R_own hR
  obtain ⟨cells, hc⟩ := own_typed ho mb e.symm
  exact hM.not_cells hc
theorem skipTo_ge (s : ByteArray) (i : Nat) : i ≤ skipTo s i := by unfold skipTo; omega
/-- What Lex hands back. -/
def LexPost (w : World) (r1 : List S39) (r2 r3 : Int) (e : Ending) (w' : World) : Prop :=
  ∃ v0_ : Value, e = .returned (.tuple #[v0_, .int .i64 r2, .int .i64 r3]) ∧ Kd.V k39 39 w' w.heap.size (fun k_ => w.heap.size ≤ k_) v0_ r1 ∧ Below w.heap.size w w'
set_option maxHeartbeats 4000000 in
set_option maxRecDepth 100000 in
theorem lex_big (s : ByteArray) (w : World) (hs : 65536 < s.size) : Calls Tryd.prog 8 #[.string s] w (LexPost w [] 0 3) := by
  have hd : decide (65536 < (s.size : Int)) = true := decide_eq_true (by omega)
  have hd2 : decide (65536 < s.size) = true := decide_eq_true hs
  clear hs
  go_enter Tryd.func8, Tryd.ntmps8
  go_wp2
  go_ret3
  exact ⟨_, rfl, Kd.V_nil _ _ _ _ _, Below.refl _ _⟩
set_option maxHeartbeats 8000000 in
set_option maxRecDepth 100000 in
theorem lex_walk (s : ByteArray) (w : World) (hG : Gl w) (hs : s.size ≤ 65536) (r1 : List S39) (r2 r3 : Int) (h : lexR (lexA (rest_ s 0) 0) = (r1, r2, r3)) : Calls Tryd.prog 8 #[.string s] w (LexPost w r1 r2 r3) := by
  have HG := Aside0.mk hG
  have HS : Aside0 (s.size ≤ 1000000) := ⟨by omega⟩
  have hd : decide (65536 < (s.size : Int)) = false := decide_eq_false (by omega)
  have hd2 : decide (65536 < s.size) = false := decide_eq_false (by omega)
  have H := Aside0.mk h
  clear hG hs h
  go_enter Tryd.func8, Tryd.ntmps8
  go_wp2_with (first
    | (go_at_call 16; go_must ((refine (words_calls w HG.out).mono ?_); rintro e w1 ⟨mb, rfl, hM, hb, hB⟩; have HM := Aside0.mk hM; have HB := Aside0.mk hB; have HW1 := Aside0.mk hb; clear hM hb hB))
    | (go_at_call 17; go_must ((refine (skip_calls w1.heap.size mb s 0 _ (by have := heap_alloc_new w1 (.cells #[.string s, .int .i64 0, .map (some mb)] 47); exact this) HS.out (Nat.zero_le _)).mono ?_); rintro e w3 ⟨rfl, hL3, hK3⟩; have HL3 := Aside0.mk hL3; have HK3 := Aside0.mk hK3; clear hL3 hK3)))
  have HNE : Aside0 (mb < w1.heap.size) := ⟨HM.out.lt⟩
  have HXB : Aside0 (w.heap.size ≤ w1.heap.size) := ⟨HB.out.size⟩
  have HM3 : Aside0 (TMap w3 mb (tset kwList)) := ⟨(HM.out.alloc _).move (HK3.out.block mb (by have := HNE.out; omega))⟩
  have HB3 : Aside0 (Below w.heap.size w w3) := ⟨(below_alloc HB.out _).grown HK3.out.grown (by have := HXB.out; simp; omega) (fun k e => by cases e; exact HXB.out)⟩
  have H3 : Aside0 (lexR (preE [] (lexA (rest_ s (skipTo s 0)) (skipTo s 0))) = (r1, r2, r3)) := ⟨by
    rw [← lexA_at s 0]
    have := H.out
    cases hx : lexA (rest_ s 0) 0 with
    | error e => rw [hx] at this; exact this
    | ok ts => rw [hx] at this; exact this⟩
  clear H HK3 HM HB
  generalize w1.heap.size = xb at *
  go_loopg [6] (s.size - skipTo s 0) (fun kq v6 wr => ∃ (acc : List S39) (pos : Nat), Aside0 (kq = s.size - pos) ∧ Aside0 (pos ≤ s.size) ∧ Aside0 (skipG false (rest_ s pos) = 0) ∧ Aside0 (lexR (preE acc (lexA (rest_ s pos) pos)) = (r1, r2, r3)) ∧ Aside0 (acc.length ≤ pos) ∧ Aside0 (Kd.R k39 39 wr w.heap.size (fun k_ => w.heap.size ≤ k_ ∧ k_ ≠ xb) v6 acc) ∧ Aside0 (LexAt wr xb mb s pos) ∧ Aside0 (TMap wr mb (tset kwList)) ∧ Aside0 (Below w.heap.size w wr))
  case atStart => exact ⟨[], skipTo s 0, ⟨rfl⟩, ⟨skipTo_le s 0 (Nat.zero_le _)⟩, ⟨skipTo_idem s 0⟩, H3, ⟨Nat.zero_le _⟩, ⟨Kd.R_nil _ _ _ _ _⟩, HL3, HM3, HB3⟩
  case round =>
    clear HL3 HM3 HB3 H3
    obtain ⟨acc, pos, HQ, HP, HSK, HR, HAL, HO, HL, HM, HB⟩ := hrel
    have hc0 := (cells3 HL.out).1
    have hc1 := (cells3 HL.out).2.1
    by_cases hlt : pos < s.size
    · have hdl : decide ((pos : Int) < (s.size : Int)) = true := decide_eq_true (by omega)
      have hdl2 : decide (pos < s.size) = true := decide_eq_true hlt
      have HLT := Aside0.mk hlt
      clear hlt
      cases htk : tokL (rest_ s pos) with
      | error er =>
        have hre := HR.out
        rw [step_err acc HLT.out HSK.out htk] at hre
        have hre2 : (([] : List S39), (pos : Int), er) = (r1, r2, r3) := hre
        injection hre2 with e1 hre2
        injection hre2 with e2 e3
        subst e1
        subst e2
        subst e3
        have her : (er != 0) = true := by rcases tok_err htk with h | h <;> rw [h] <;> rfl
        have HTK := Aside0.mk htk
        clear htk hre
        go_wp2_with (first
          | (go_at_call 18; go_must ((refine (next_err xb mb s pos _ HL.out HS.out HLT.out HTK.out).mono ?_); rintro e w4 ⟨kd4, t4, rfl, hL4, hg4⟩; have HL4 := Aside0.mk hL4; have HG4 := Aside0.mk hg4; clear hL4 hg4)))
        refine gen_world ?_
        intro W HW
        have hWc : W.cell? ⟨w4.heap.size, 2, none⟩ = some (.int .i64 (pos : Int)) := by rw [← HW.out]; simp
        go_quiet (fail)
        have hW := HW.out
        clear hWc HW
        subst hW
        go_wp2
        go_ret3
        exact ⟨_, rfl, Kd.V_nil _ _ _ _ _, by apply pw_below_drewN; exact below_alloc (HB.out.grown HG4.out HB.out.size (fun k e => by cases e; exact HXB.out)) _⟩
      | ok p =>
        obtain ⟨kind, n⟩ := p
        have hre := HR.out
        rw [step_ok acc HLT.out HSK.out htk] at hre
        have hn := tokL_len htk
        rw [rest_len] at hn
        have HN := Aside0.mk hn
        have HRE := Aside0.mk hre
        have HTK := Aside0.mk htk
        clear htk hre hn
        go_wp2_with (first
          | (go_at_call 18; go_must ((refine (next_ok xb mb s pos _ HL.out HS.out HLT.out HM.out HTK.out).mono ?_); rintro e w4 ⟨rfl, hL4, hg4⟩; have HL4 := Aside0.mk hL4; have HG4 := Aside0.mk hg4; have HM4 : Aside0 (TMap w4 mb (tset kwList)) := ⟨HM.out.grown hg4 (fun e => by injection e with e; have := HNE.out; omega)⟩; have HO4 := Aside0.mk (Kd.R_grown HO.out hg4 (fun k hk e => hk.2 (Option.some.inj e))); have HB4 : Aside0 (Below w.heap.size w w4) := ⟨HB.out.grown hg4 HB.out.size (fun k e => by cases e; exact HXB.out)⟩; clear hL4 hg4))
          | ((with_reducible refine gate_builtin (b := .append) (xs := #[.tmp 37, .tmp 39]) rfl ?_); go_must (at_builtin; refine Kd.R_append k39 (w0 := w) w.heap.size rfl (.tmp 37) (.tmp 39) 22 39 (.agg #[(.int .i64 0), (.string ⟨#[]⟩), (.int .i64 0)]) 32 rfl Tryd.underlying22 info39 rfl (by decide) (by omega) u6 acc (⟨kind, s.extract pos (pos + n), (pos : Int)⟩ : S39) [.int .i64 kind, .string (s.extract pos (pos + n)), .int .i64 (pos : Int)] (fun k_ => w.heap.size ≤ k_ ∧ k_ ≠ xb) (fun _ => False) rfl (by show Value.slice (some ⟨w4.heap.size + 1, 0, none⟩) 1 1 = Value.slice (some ⟨(w4.alloc _).heap.size, 0, none⟩) 1 1; simp) ?aP (fun _ hk => hk.elim) ?aF ?aO ?aB ?aS ?aL ?_; (case aP => exact k39_mkM _ _ _ _); (case aF => exact (fun k hk => by simp at hk; have h1 := HL4.out.lt; have h2 := HB4.out.size; exact ⟨by omega, by omega⟩)); (case aO => exact (by (with_reducible repeat (first | apply Kd.R_alloc | apply Kd.R_drewN | apply Kd.R_drew)); exact HO4.out)); (case aB => exact below_alloc HB4.out _); (case aS => exact below_size (below_alloc HB4.out _)); (case aL => have h1 := HAL.out; have h2 := HP.out; have h3 := HS.out; omega); intro v5 w5 ho hb hg hat; have HO5 := Aside0.mk ho; have HB5 := Aside0.mk hb; have HL5 : Aside0 (LexAt w5 xb mb s (pos + n)) := ⟨(hg.block xb (by have := HL4.out.lt; simp; omega) (fun e => (HO4.out.1 xb e.symm).2 rfl)).trans (HL4.out.alloc _)⟩; have HM5 : Aside0 (TMap w5 mb (tset kwList)) := ⟨(HM4.out.alloc _).grown hg (map_ne_row HM4.out HO4.out)⟩; clear ho hb hg hat))
          | (go_at_call 17; go_must ((refine (skip_calls xb mb s (pos + n) _ HL5.out HS.out (by have := HN.out; have := HP.out; omega)).mono ?_); rintro e w6 ⟨rfl, hL6, hK6⟩; have HL6 := Aside0.mk hL6; have HK6 := Aside0.mk hK6; clear hL6 hK6)))
        go_roundg (s.size - skipTo s (pos + n))
        case measure => have h1 := HQ.out; have h2 := skipTo_ge s (pos + n); have h3 := HN.out; have h4 := HLT.out; omega
        case rel => exact ⟨acc ++ [_], skipTo s (pos + n), ⟨rfl⟩, ⟨skipTo_le s _ (by have := HN.out; have := HP.out; omega)⟩, ⟨skipTo_idem s _⟩, HRE, ⟨by have h1 := HAL.out; have h2 := skipTo_ge s (pos + n); have h3 := HN.out; rw [List.length_append, List.length_singleton]; omega⟩, ⟨Kd.R_grown HO5.out HK6.out.grown (fun k hk e => hk.2 (Option.some.inj e))⟩, HL6, ⟨HM5.out.move (HK6.out.block mb (by have := HNE.out; omega))⟩, ⟨HB5.out.grown HK6.out.grown HB5.out.size (fun k e => by cases e; exact HXB.out)⟩⟩
    · have hdl : decide ((pos : Int) < (s.size : Int)) = false := decide_eq_false (by omega)
      have hdl2 : decide (pos < s.size) = false := decide_eq_false hlt
      have hre := HR.out
      rw [step_end acc (by omega)] at hre
      injection hre with e1 hre
      injection hre with e2 e3
      subst e1
      subst e2
      subst e3
      clear hlt
      obtain ⟨A, c, rfl⟩ := Kd.R_slice HO.out
      have hac : acc.length ≤ c := (Kd.R_reads' HO.out).2.1
      go_wp2_with fail
      go_ret3
      exact ⟨_, rfl, Kd.V_mk (Nat.le_refl _) (Kd.F_mono (Kd.R_F HO.out) (fun k hk => hk.1)), HB.out⟩
theorem lex_Lex.calls (k : Nat) (a0 : ByteArray) (r1 : List S39) (r2 r3 : Int) (w : World) (hG : Gl w) (h : lex_Lex.f k a0 = some (r1, r2, r3)) :
    Calls Tryd.prog 8 #[.string a0] w fun e w' => ∃ v0_ : Value, e = .returned (.tuple #[v0_, .int .i64 r2, .int .i64 r3]) ∧ Kd.V k39 39 w' w.heap.size (fun k_ => w.heap.size ≤ k_) v0_ r1 ∧ Below w.heap.size w w' := by
  have h : lexP a0 = (r1, r2, r3) := Option.some.inj h
  by_cases hb : 65536 < a0.size
  · have e : lexP a0 = ([], 0, 3) := by unfold lexP; rw [if_pos hb]
    rw [e] at h
    injection h with e1 h
    injection h with e2 e3
    subst e1
    subst e2
    subst e3
    exact lex_big a0 w hb
  · rw [lexP_eq a0 (by omega)] at h
    exact lex_walk a0 w hG (by omega) r1 r2 r3 h
end Go.Proofs.YtafjbebbmfihaaaDoor.P
