/- (*lexer).next: the token that stands here; the lexer's words are the language's. -/
import Derived.Test.YtafjbebbmfihaaaDoorHSign
import Derived.Test.YtafjbebbmfihaaaDoorLNum
import Derived.StillTailTactics
namespace Go.Proofs.YtafjbebbmfihaaaDoor.P
open Go.RowKit Go.Proofs.YtafjbebbmfihaaaDoorW.PrintWords Go.Proofs.YtafjbebbmfihaaaDoorW.PrintLast Go.Proofs.YtafjbebbmfihaaaDoorW.PrintMore
set_option linter.unusedVariables false
set_option linter.unusedSimpArgs false
set_option linter.unusedSectionVars false
/-- The lexer has moved; nothing else that stood has turned. -/
def Moved (w w' : World) (xb mb : Nat) (s : ByteArray) (at2 : Nat) : Prop := LexAt w' xb mb s at2 ∧ w.grownBy w' (some xb)
def TokPost (w : World) (xb mb : Nat) (s : ByteArray) (kind : Int) (t : ByteArray) (at_ : Nat) (er : Int) (at2 : Nat) (e : Ending) (w' : World) : Prop :=
  e = .returned (.tuple #[.agg #[.int .i64 kind, .string t, .int .i64 (at_ : Int)], .int .i64 er]) ∧ Moved w w' xb mb s at2
theorem LexAt.lt {w : World} {xb mb : Nat} {s : ByteArray} {i : Nat} (h : LexAt w xb mb s i) : xb < w.heap.size := (Array.getElem?_eq_some_iff.1 h).1
theorem LexAt.alloc {w : World} {xb mb : Nat} {s : ByteArray} {i : Nat} (h : LexAt w xb mb s i) (o : Obj) : LexAt (w.alloc o) xb mb s i := by
  have hb := below_alloc (Below.refl w.heap.size w) o
  exact (hb.block _ h.lt).trans h
theorem LexAt.far {w : World} {xb mb : Nat} {s : ByteArray} {i b o : Nat} {u : Value} (h : LexAt w xb mb s i) (hb : xb ≠ b) : LexAt (w.setCell ⟨b, o, none⟩ u) xb mb s i :=
  (Below.heap_setCell w ⟨b, o, none⟩ u xb hb).trans h
theorem gen_world {P : Program} {c : Code} {Q : Exit → Act → World → Prop} {a : Act} {E : World} (h : ∀ W, Aside0 (E = W) → Code.wp P c Q a W) : Code.wp P c Q a E := h E ⟨rfl⟩
theorem G_alloc {w w1 : World} {r : Option Nat} (h : w.grownBy w1 r) (o : Obj) : w.grownBy (w1.alloc o) r := h.trans (World.grownBy_alloc w1 o r)
theorem G_drewN {w w1 : World} {r : Option Nat} (h : w.grownBy w1 r) (n : Nat) : w.grownBy (w1.drewN n) r := ⟨h.os, h.tape, h.output, h.size, h.block⟩
theorem G_set {w w1 : World} {r : Option Nat} (h : w.grownBy w1 r) (b o : Nat) (u : Value) (hb : w.heap.size ≤ b ∨ some b = r) : w.grownBy (w1.setCell ⟨b, o, none⟩ u) r :=
  ⟨h.os, h.tape, h.output, by have := h.size; unfold World.setCell; simpa using this, fun k hk hne => (Below.heap_setCell w1 ⟨b, o, none⟩ u k (fun e => by
    have e2 : k = b := e
    rcases hb with hb | hb
    · omega
    · exact hne (by rw [e2]; exact hb))).trans (h.block k hk hne)⟩
set_option maxHeartbeats 8000000 in
set_option maxRecDepth 100000 in
theorem next_none (xb mb : Nat) (s : ByteArray) (at_ : Nat) (w : World) (hL : LexAt w xb mb s at_) (hs : s.size ≤ 1000000) (ha : at_ < s.size)
    (h0 : ((rest_ s at_).takeWhile isPt).length = 0) (h1 : signL (rest_ s at_) = 0) :
    Calls Tryd.prog 18 #[ptr xb] w (TokPost w xb mb s 4 ⟨#[]⟩ at_ 20 at_) := by
  have HL := Aside0.mk hL
  have HS := Aside0.mk hs
  have HA := Aside0.mk ha
  have hc0 := (cells3 hL).1
  have hc1 := (cells3 hL).2.1
  have hc2 := (cells3 hL).2.2.1
  have hfz := (cells3 hL).2.2.2
  have hx := hL.lt
  have HX := Aside0.mk hx
  have hsz1 : (0 : Int) ≤ (at_ : Int) := by omega
  have hsz2 : (at_ : Int) ≤ (s.size : Int) := by omega
  have HSP : Aside0 (spanN isPartB s (s.size - at_) at_ = 0) := ⟨by rw [spanN_eq part_is s _ at_ rfl, h0]⟩
  have HSG := Aside0.mk h1
  clear hL hs ha h0 h1
  go_enter Tryd.func18, Tryd.ntmps18
  go_wp2_with (first
    | (go_at_call 26; go_must ((refine (span_calls30 isPartB pred30 xb s at_ _ (cells3 ((HL.out.alloc _))).1 (cells3 ((HL.out.alloc _))).2.1 HS.out (by have := HA.out; omega)).mono ?_); rintro e w' ⟨rfl, ⟨nd, rfl⟩⟩; rw [HSP.out]))
    | (go_at_call 31; go_must ((refine (sign_calls xb mb s at_ _ (LexAt.alloc (LexAt.drewN _ (LexAt.alloc HL.out _)) _) HS.out HA.out).mono ?_); rintro e w' ⟨rfl, ⟨nd2, rfl⟩⟩; rw [HSG.out])))
  refine bodyPost_ret (v := .tuple #[.agg #[.int .i64 4, .string ⟨#[]⟩, .int .i64 (at_ : Int)], .int .i64 20]) (by simp [results, Tryd.results18, go_sem]) rfl ⟨rfl, ?_, ?_⟩
  · (repeat (first | with_reducible exact HL.out | with_reducible apply LexAt.drewN | with_reducible apply LexAt.alloc | with_reducible apply LexAt.move2 | (with_reducible refine LexAt.far ?_ (by have := HX.out; omega))))
  · (repeat (first | with_reducible exact World.grownBy.refl _ _ | with_reducible apply G_drewN | with_reducible apply G_alloc | (with_reducible refine G_set ?_ _ _ _ (by first | exact Or.inr rfl | exact Or.inl (by omega)))))
set_option maxHeartbeats 8000000 in
set_option maxRecDepth 100000 in
theorem next_sign (xb mb : Nat) (s : ByteArray) (at_ : Nat) (w : World) (hL : LexAt w xb mb s at_) (hs : s.size ≤ 1000000) (ha : at_ < s.size)
    (h0 : ((rest_ s at_).takeWhile isPt).length = 0) (n : Nat) (h1 : signL (rest_ s at_) = n) (hn : n ≠ 0) (hn2 : at_ + n ≤ s.size) :
    Calls Tryd.prog 18 #[ptr xb] w (TokPost w xb mb s 4 (s.extract at_ (at_ + n)) at_ 0 (at_ + n)) := by
  have HL := Aside0.mk hL
  have HS := Aside0.mk hs
  have HA := Aside0.mk ha
  have hc0 := (cells3 hL).1
  have hc1 := (cells3 hL).2.1
  have hc2 := (cells3 hL).2.2.1
  have hfz := (cells3 hL).2.2.2
  have hx := hL.lt
  have HX := Aside0.mk hx
  have hsz1 : (0 : Int) ≤ (at_ : Int) := by omega
  have hsz2 : (at_ : Int) ≤ (s.size : Int) := by omega
  have HSP : Aside0 (spanN isPartB s (s.size - at_) at_ = 0) := ⟨by rw [spanN_eq part_is s _ at_ rfl, h0]⟩
  have HSG := Aside0.mk h1
  have hw1 : IntKind.i64.wrap ((at_ : Int) + (n : Int)) = (at_ : Int) + (n : Int) := IntWalk.i64_in _ (by omega)
  have hsz3 : (0 : Int) ≤ (at_ : Int) + (n : Int) := by omega
  have hsz4 : (at_ : Int) ≤ (at_ : Int) + (n : Int) := by omega
  have hsz5 : (at_ : Int) + (n : Int) ≤ (s.size : Int) := by omega
  have hb : (((n : Int)) == 0) = false := by rw [beq_eq_false_iff_ne]; omega
  clear hL hs ha h0 h1 hn hn2
  go_enter Tryd.func18, Tryd.ntmps18
  go_wp2_with (first
    | (go_at_call 26; go_must ((refine (span_calls30 isPartB pred30 xb s at_ _ (cells3 ((HL.out.alloc _))).1 (cells3 ((HL.out.alloc _))).2.1 HS.out (by have := HA.out; omega)).mono ?_); rintro e w' ⟨rfl, ⟨nd, rfl⟩⟩; rw [HSP.out]))
    | (go_at_call 31; go_must ((refine (sign_calls xb mb s at_ _ (LexAt.alloc (LexAt.drewN _ (LexAt.alloc HL.out _)) _) HS.out HA.out).mono ?_); rintro e w' ⟨rfl, ⟨nd2, rfl⟩⟩; rw [HSG.out])))
  refine gen_world ?_
  intro W HW
  have HLW : LexAt W xb mb s at_ := by rw [← HW.out]; (repeat (first | with_reducible exact HL.out | with_reducible apply LexAt.drewN | with_reducible apply LexAt.alloc | (with_reducible refine LexAt.far ?_ (by have := HX.out; omega))))
  have hW0 := (cells3 HLW).1
  have hW1 := (cells3 HLW).2.1
  have hW2 := (cells3 HLW).2.2.1
  clear HLW
  go_still_tail 16, (by kernel_rfl)
  have hW := HW.out
  clear hW0 hW1 hW2 HW
  rw [show ({ W with drawn := W.drawn + 1 } : World) = W.drewN 1 from rfl]
  subst hW
  go_wp2
  refine bodyPost_ret (v := .tuple #[.agg #[.int .i64 4, .string (s.extract at_ (at_ + n)), .int .i64 (at_ : Int)], .int .i64 0]) (by simp [results, Tryd.results18, go_sem]) rfl ⟨rfl, ?_, ?_⟩
  · (repeat (first | with_reducible exact HL.out | with_reducible apply LexAt.drewN | with_reducible apply LexAt.alloc | with_reducible apply LexAt.move2 | (with_reducible refine LexAt.far ?_ (by have := HX.out; omega))))
  · (repeat (first | with_reducible exact World.grownBy.refl _ _ | with_reducible apply G_drewN | with_reducible apply G_alloc | (with_reducible refine G_set ?_ _ _ _ (by first | exact Or.inr rfl | exact Or.inl (by omega)))))
set_option maxHeartbeats 8000000 in
set_option maxRecDepth 100000 in
theorem next_int (xb mb : Nat) (s : ByteArray) (at_ : Nat) (w : World) (hL : LexAt w xb mb s at_) (hs : s.size ≤ 1000000) (ha : at_ < s.size)
    (n : Nat) (h0 : ((rest_ s at_).takeWhile isPt).length = n) (hn : n ≠ 0) (hn2 : at_ + n ≤ s.size) (hd : lex_isDigit.f (bt s (at_ : Int)) = some true) (K : Nat) (v : Int) (t : ByteArray) (hnum : lex_Number.f K (s.extract at_ (at_ + n)) = some (v, t, 0)) :
    Calls Tryd.prog 18 #[ptr xb] w (TokPost w xb mb s 2 (s.extract at_ (at_ + n)) at_ 0 (at_ + n)) := by
  have HL := Aside0.mk hL
  have HS := Aside0.mk hs
  have HA := Aside0.mk ha
  have hc0 := (cells3 hL).1
  have hc1 := (cells3 hL).2.1
  have hc2 := (cells3 hL).2.2.1
  have hfz := (cells3 hL).2.2.2
  have hx := hL.lt
  have HX := Aside0.mk hx
  have hsz1 : (0 : Int) ≤ (at_ : Int) := by omega
  have hsz2 : (at_ : Int) ≤ (s.size : Int) := by omega
  have HSP : Aside0 (spanN isPartB s (s.size - at_) at_ = n) := ⟨by rw [spanN_eq part_is s _ at_ rfl, h0]⟩
  have hw1 : IntKind.i64.wrap ((at_ : Int) + (n : Int)) = (at_ : Int) + (n : Int) := IntWalk.i64_in _ (by omega)
  have hsz3 : (0 : Int) ≤ (at_ : Int) + (n : Int) := by omega
  have hsz4 : (at_ : Int) ≤ (at_ : Int) + (n : Int) := by omega
  have hsz5 : (at_ : Int) + (n : Int) ≤ (s.size : Int) := by omega
  have hb : (((n : Int)) == 0) = false := by rw [beq_eq_false_iff_ne]; omega
  have hi1 : (at_ : Int) < (s.size : Int) := by omega
  have hbt : ∀ h : at_ < s.size, (((s[at_]'h).toNat : Nat) : Int) = bt s (at_ : Int) := fun h => bt_at s (at_ : Int) h
  have HD := Aside0.mk hd
  have HNUM := Aside0.mk hnum
  clear hL hs ha h0 hn hn2 hd hnum
  go_enter Tryd.func18, Tryd.ntmps18
  go_wp2_with (first
    | (go_at_call 26; go_must ((refine (span_calls30 isPartB pred30 xb s at_ _ (cells3 ((HL.out.alloc _))).1 (cells3 ((HL.out.alloc _))).2.1 HS.out (by have := HA.out; omega)).mono ?_); rintro e w' ⟨rfl, ⟨nd, rfl⟩⟩; rw [HSP.out])))
  refine gen_world ?_
  intro W HW
  have HLW : LexAt W xb mb s at_ := by rw [← HW.out]; (repeat (first | with_reducible exact HL.out | with_reducible apply LexAt.drewN | with_reducible apply LexAt.alloc | (with_reducible refine LexAt.far ?_ (by have := HX.out; omega))))
  have hW0 := (cells3 HLW).1
  have hW1 := (cells3 HLW).2.1
  have hW2 := (cells3 HLW).2.2.1
  go_quiet ((first | (go_at_call 23; (refine (lex_isDigit.calls _ true _ HD.out).mono ?_); rintro e w' ⟨rfl, ⟨nd3, rfl⟩⟩; (first | exact ⟨rfl, _, World.drewN_drewN _ _ _⟩ | exact ⟨rfl, _, Eq.trans (World.drewN_drewN _ _ _) (congrArg (World.drewN _) (Nat.add_assoc _ _ _))⟩)) | fail))
  have hW := HW.out
  clear hW0 hW1 hW2 HLW HW
  subst hW
  go_wp2
  refine gen_world ?_
  intro W HW
  have HLW : LexAt W xb mb s at_ := by rw [← HW.out]; (repeat (first | with_reducible exact HL.out | with_reducible apply LexAt.drewN | with_reducible apply LexAt.alloc | (with_reducible refine LexAt.far ?_ (by have := HX.out; omega))))
  have hW0 := (cells3 HLW).1
  have hW1 := (cells3 HLW).2.1
  have hW2 := (cells3 HLW).2.2.1
  go_quiet ((first | (go_at_call 11; (refine (lex_Number.calls _ _ _ _ _ _ HNUM.out).mono ?_); rintro e w' ⟨rfl, ⟨nd4, rfl⟩⟩; (first | exact ⟨rfl, _, World.drewN_drewN _ _ _⟩ | exact ⟨rfl, _, Eq.trans (World.drewN_drewN _ _ _) (congrArg (World.drewN _) (Nat.add_assoc _ _ _))⟩)) | fail))
  have hW := HW.out
  clear hW0 hW1 hW2 HLW HW
  subst hW
  go_wp2
  refine gen_world ?_
  intro W HW
  have HLW : LexAt W xb mb s at_ := by rw [← HW.out]; (repeat (first | with_reducible exact HL.out | with_reducible apply LexAt.drewN | with_reducible apply LexAt.alloc | (with_reducible refine LexAt.far ?_ (by have := HX.out; omega))))
  have hW0 := (cells3 HLW).1
  have hW1 := (cells3 HLW).2.1
  have hW2 := (cells3 HLW).2.2.1
  clear HLW
  go_still_tail 16, (by kernel_rfl)
  have hW := HW.out
  clear hW0 hW1 hW2 HW
  rw [show ({ W with drawn := W.drawn + 1 } : World) = W.drewN 1 from rfl]
  subst hW
  go_wp2
  refine bodyPost_ret (v := .tuple #[.agg #[.int .i64 2, .string (s.extract at_ (at_ + n)), .int .i64 (at_ : Int)], .int .i64 0]) (by simp [results, Tryd.results18, go_sem]) rfl ⟨rfl, ?_, ?_⟩
  · (repeat (first | with_reducible exact HL.out | with_reducible apply LexAt.drewN | with_reducible apply LexAt.alloc | with_reducible apply LexAt.move2 | (with_reducible refine LexAt.far ?_ (by have := HX.out; omega))))
  · (repeat (first | with_reducible exact World.grownBy.refl _ _ | with_reducible apply G_drewN | with_reducible apply G_alloc | (with_reducible refine G_set ?_ _ _ _ (by first | exact Or.inr rfl | exact Or.inl (by omega)))))
set_option maxHeartbeats 8000000 in
set_option maxRecDepth 100000 in
theorem next_bad (xb mb : Nat) (s : ByteArray) (at_ : Nat) (w : World) (hL : LexAt w xb mb s at_) (hs : s.size ≤ 1000000) (ha : at_ < s.size)
    (n : Nat) (h0 : ((rest_ s at_).takeWhile isPt).length = n) (hn : n ≠ 0) (hn2 : at_ + n ≤ s.size) (hd : lex_isDigit.f (bt s (at_ : Int)) = some true) (K : Nat) (v : Int) (t : ByteArray) (hnum : lex_Number.f K (s.extract at_ (at_ + n)) = some (v, t, 21)) :
    Calls Tryd.prog 18 #[ptr xb] w (TokPost w xb mb s 2 ⟨#[]⟩ at_ 21 at_) := by
  have HL := Aside0.mk hL
  have HS := Aside0.mk hs
  have HA := Aside0.mk ha
  have hc0 := (cells3 hL).1
  have hc1 := (cells3 hL).2.1
  have hc2 := (cells3 hL).2.2.1
  have hfz := (cells3 hL).2.2.2
  have hx := hL.lt
  have HX := Aside0.mk hx
  have hsz1 : (0 : Int) ≤ (at_ : Int) := by omega
  have hsz2 : (at_ : Int) ≤ (s.size : Int) := by omega
  have HSP : Aside0 (spanN isPartB s (s.size - at_) at_ = n) := ⟨by rw [spanN_eq part_is s _ at_ rfl, h0]⟩
  have hw1 : IntKind.i64.wrap ((at_ : Int) + (n : Int)) = (at_ : Int) + (n : Int) := IntWalk.i64_in _ (by omega)
  have hsz3 : (0 : Int) ≤ (at_ : Int) + (n : Int) := by omega
  have hsz4 : (at_ : Int) ≤ (at_ : Int) + (n : Int) := by omega
  have hsz5 : (at_ : Int) + (n : Int) ≤ (s.size : Int) := by omega
  have hb : (((n : Int)) == 0) = false := by rw [beq_eq_false_iff_ne]; omega
  have hi1 : (at_ : Int) < (s.size : Int) := by omega
  have hbt : ∀ h : at_ < s.size, (((s[at_]'h).toNat : Nat) : Int) = bt s (at_ : Int) := fun h => bt_at s (at_ : Int) h
  have HD := Aside0.mk hd
  have HNUM := Aside0.mk hnum
  clear hL hs ha h0 hn hn2 hd hnum
  go_enter Tryd.func18, Tryd.ntmps18
  go_wp2_with (first
    | (go_at_call 26; go_must ((refine (span_calls30 isPartB pred30 xb s at_ _ (cells3 ((HL.out.alloc _))).1 (cells3 ((HL.out.alloc _))).2.1 HS.out (by have := HA.out; omega)).mono ?_); rintro e w' ⟨rfl, ⟨nd, rfl⟩⟩; rw [HSP.out])))
  refine gen_world ?_
  intro W HW
  have HLW : LexAt W xb mb s at_ := by rw [← HW.out]; (repeat (first | with_reducible exact HL.out | with_reducible apply LexAt.drewN | with_reducible apply LexAt.alloc | (with_reducible refine LexAt.far ?_ (by have := HX.out; omega))))
  have hW0 := (cells3 HLW).1
  have hW1 := (cells3 HLW).2.1
  have hW2 := (cells3 HLW).2.2.1
  go_quiet ((first | (go_at_call 23; (refine (lex_isDigit.calls _ true _ HD.out).mono ?_); rintro e w' ⟨rfl, ⟨nd3, rfl⟩⟩; (first | exact ⟨rfl, _, World.drewN_drewN _ _ _⟩ | exact ⟨rfl, _, Eq.trans (World.drewN_drewN _ _ _) (congrArg (World.drewN _) (Nat.add_assoc _ _ _))⟩)) | fail))
  have hW := HW.out
  clear hW0 hW1 hW2 HLW HW
  subst hW
  go_wp2
  refine gen_world ?_
  intro W HW
  have HLW : LexAt W xb mb s at_ := by rw [← HW.out]; (repeat (first | with_reducible exact HL.out | with_reducible apply LexAt.drewN | with_reducible apply LexAt.alloc | (with_reducible refine LexAt.far ?_ (by have := HX.out; omega))))
  have hW0 := (cells3 HLW).1
  have hW1 := (cells3 HLW).2.1
  have hW2 := (cells3 HLW).2.2.1
  go_quiet ((first | (go_at_call 11; (refine (lex_Number.calls _ _ _ _ _ _ HNUM.out).mono ?_); rintro e w' ⟨rfl, ⟨nd4, rfl⟩⟩; (first | exact ⟨rfl, _, World.drewN_drewN _ _ _⟩ | exact ⟨rfl, _, Eq.trans (World.drewN_drewN _ _ _) (congrArg (World.drewN _) (Nat.add_assoc _ _ _))⟩)) | fail))
  have hW := HW.out
  clear hW0 hW1 hW2 HLW HW
  subst hW
  go_wp2
  refine bodyPost_ret (v := .tuple #[.agg #[.int .i64 2, .string ⟨#[]⟩, .int .i64 (at_ : Int)], .int .i64 21]) (by simp [results, Tryd.results18, go_sem]) rfl ⟨rfl, ?_, ?_⟩
  · (repeat (first | with_reducible exact HL.out | with_reducible apply LexAt.drewN | with_reducible apply LexAt.alloc | with_reducible apply LexAt.move2 | (with_reducible refine LexAt.far ?_ (by have := HX.out; omega))))
  · (repeat (first | with_reducible exact World.grownBy.refl _ _ | with_reducible apply G_drewN | with_reducible apply G_alloc | (with_reducible refine G_set ?_ _ _ _ (by first | exact Or.inr rfl | exact Or.inl (by omega)))))
set_option maxHeartbeats 8000000 in
set_option maxRecDepth 100000 in
theorem next_long (xb mb : Nat) (s : ByteArray) (at_ : Nat) (w : World) (hL : LexAt w xb mb s at_) (hs : s.size ≤ 1000000) (ha : at_ < s.size)
    (n : Nat) (h0 : ((rest_ s at_).takeWhile isPt).length = n) (hn : n ≠ 0) (hn2 : at_ + n ≤ s.size) (hd : lex_isDigit.f (bt s (at_ : Int)) = some false) (hl : 40 < n) :
    Calls Tryd.prog 18 #[ptr xb] w (TokPost w xb mb s 4 ⟨#[]⟩ at_ 20 at_) := by
  have HL := Aside0.mk hL
  have HS := Aside0.mk hs
  have HA := Aside0.mk ha
  have hc0 := (cells3 hL).1
  have hc1 := (cells3 hL).2.1
  have hc2 := (cells3 hL).2.2.1
  have hfz := (cells3 hL).2.2.2
  have hx := hL.lt
  have HX := Aside0.mk hx
  have hsz1 : (0 : Int) ≤ (at_ : Int) := by omega
  have hsz2 : (at_ : Int) ≤ (s.size : Int) := by omega
  have HSP : Aside0 (spanN isPartB s (s.size - at_) at_ = n) := ⟨by rw [spanN_eq part_is s _ at_ rfl, h0]⟩
  have hb : (((n : Int)) == 0) = false := by rw [beq_eq_false_iff_ne]; omega
  have hi1 : (at_ : Int) < (s.size : Int) := by omega
  have hbt : ∀ h : at_ < s.size, (((s[at_]'h).toNat : Nat) : Int) = bt s (at_ : Int) := fun h => bt_at s (at_ : Int) h
  have HD := Aside0.mk hd
  have hbig : decide (40 < (n : Int)) = true := decide_eq_true (by omega)
  clear hL hs ha h0 hn hn2 hd hl
  go_enter Tryd.func18, Tryd.ntmps18
  go_wp2_with (first
    | (go_at_call 26; go_must ((refine (span_calls30 isPartB pred30 xb s at_ _ (cells3 ((HL.out.alloc _))).1 (cells3 ((HL.out.alloc _))).2.1 HS.out (by have := HA.out; omega)).mono ?_); rintro e w' ⟨rfl, ⟨nd, rfl⟩⟩; rw [HSP.out])))
  refine gen_world ?_
  intro W HW
  have HLW : LexAt W xb mb s at_ := by rw [← HW.out]; (repeat (first | with_reducible exact HL.out | with_reducible apply LexAt.drewN | with_reducible apply LexAt.alloc | (with_reducible refine LexAt.far ?_ (by have := HX.out; omega))))
  have hW0 := (cells3 HLW).1
  have hW1 := (cells3 HLW).2.1
  have hW2 := (cells3 HLW).2.2.1
  go_quiet ((first | (go_at_call 23; (refine (lex_isDigit.calls _ false _ HD.out).mono ?_); rintro e w' ⟨rfl, ⟨nd3, rfl⟩⟩; (first | exact ⟨rfl, _, World.drewN_drewN _ _ _⟩ | exact ⟨rfl, _, Eq.trans (World.drewN_drewN _ _ _) (congrArg (World.drewN _) (Nat.add_assoc _ _ _))⟩)) | fail))
  have hW := HW.out
  clear hW0 hW1 hW2 HLW HW
  subst hW
  go_wp2
  refine bodyPost_ret (v := .tuple #[.agg #[.int .i64 4, .string ⟨#[]⟩, .int .i64 (at_ : Int)], .int .i64 20]) (by simp [results, Tryd.results18, go_sem]) rfl ⟨rfl, ?_, ?_⟩
  · (repeat (first | with_reducible exact HL.out | with_reducible apply LexAt.drewN | with_reducible apply LexAt.alloc | with_reducible apply LexAt.move2 | (with_reducible refine LexAt.far ?_ (by have := HX.out; omega))))
  · (repeat (first | with_reducible exact World.grownBy.refl _ _ | with_reducible apply G_drewN | with_reducible apply G_alloc | (with_reducible refine G_set ?_ _ _ _ (by first | exact Or.inr rfl | exact Or.inl (by omega)))))
set_option maxHeartbeats 8000000 in
set_option maxRecDepth 100000 in
theorem next_word (xb mb : Nat) (s : ByteArray) (at_ : Nat) (w : World) (hL : LexAt w xb mb s at_) (hs : s.size ≤ 1000000) (ha : at_ < s.size)
    (n : Nat) (h0 : ((rest_ s at_).takeWhile isPt).length = n) (hn : n ≠ 0) (hn2 : at_ + n ≤ s.size) (hd : lex_isDigit.f (bt s (at_ : Int)) = some false) (hl : n ≤ 40) (hM : TMap w mb (tset kwList)) (hkw : decide (s.extract at_ (at_ + n) ∈ kwList) = true) :
    Calls Tryd.prog 18 #[ptr xb] w (TokPost w xb mb s 3 (s.extract at_ (at_ + n)) at_ 0 (at_ + n)) := by
  have HL := Aside0.mk hL
  have HS := Aside0.mk hs
  have HA := Aside0.mk ha
  have hc0 := (cells3 hL).1
  have hc1 := (cells3 hL).2.1
  have hc2 := (cells3 hL).2.2.1
  have hfz := (cells3 hL).2.2.2
  have hx := hL.lt
  have HX := Aside0.mk hx
  have hsz1 : (0 : Int) ≤ (at_ : Int) := by omega
  have hsz2 : (at_ : Int) ≤ (s.size : Int) := by omega
  have HSP : Aside0 (spanN isPartB s (s.size - at_) at_ = n) := ⟨by rw [spanN_eq part_is s _ at_ rfl, h0]⟩
  have hw1 : IntKind.i64.wrap ((at_ : Int) + (n : Int)) = (at_ : Int) + (n : Int) := IntWalk.i64_in _ (by omega)
  have hsz3 : (0 : Int) ≤ (at_ : Int) + (n : Int) := by omega
  have hsz4 : (at_ : Int) ≤ (at_ : Int) + (n : Int) := by omega
  have hsz5 : (at_ : Int) + (n : Int) ≤ (s.size : Int) := by omega
  have hb : (((n : Int)) == 0) = false := by rw [beq_eq_false_iff_ne]; omega
  have hi1 : (at_ : Int) < (s.size : Int) := by omega
  have hbt : ∀ h : at_ < s.size, (((s[at_]'h).toNat : Nat) : Int) = bt s (at_ : Int) := fun h => bt_at s (at_ : Int) h
  have HD := Aside0.mk hd
  have hbig : decide (40 < (n : Int)) = false := decide_eq_false (by omega)
  have HKW := Aside0.mk hkw
  have HNE : Aside0 (mb ≠ xb) := ⟨fun e => by subst e; exact hM.not_cells hL⟩
  have HM := Aside0.mk hM
  clear hL hs ha h0 hn hn2 hd hl hM hkw
  go_enter Tryd.func18, Tryd.ntmps18
  go_wp2_with (first
    | (go_at_call 26; go_must ((refine (span_calls30 isPartB pred30 xb s at_ _ (cells3 ((HL.out.alloc _))).1 (cells3 ((HL.out.alloc _))).2.1 HS.out (by have := HA.out; omega)).mono ?_); rintro e w' ⟨rfl, ⟨nd, rfl⟩⟩; rw [HSP.out])))
  refine gen_world ?_
  intro W HW
  have HLW : LexAt W xb mb s at_ := by rw [← HW.out]; (repeat (first | with_reducible exact HL.out | with_reducible apply LexAt.drewN | with_reducible apply LexAt.alloc | (with_reducible refine LexAt.far ?_ (by have := HX.out; omega))))
  have hW0 := (cells3 HLW).1
  have hW1 := (cells3 HLW).2.1
  have hW2 := (cells3 HLW).2.2.1
  go_quiet ((first | (go_at_call 23; (refine (lex_isDigit.calls _ false _ HD.out).mono ?_); rintro e w' ⟨rfl, ⟨nd3, rfl⟩⟩; (first | exact ⟨rfl, _, World.drewN_drewN _ _ _⟩ | exact ⟨rfl, _, Eq.trans (World.drewN_drewN _ _ _) (congrArg (World.drewN _) (Nat.add_assoc _ _ _))⟩)) | fail))
  have hW := HW.out
  clear hW0 hW1 hW2 HLW HW
  subst hW
  go_wp2
  refine gen_world ?_
  intro W HW
  have HLW : LexAt W xb mb s at_ := by rw [← HW.out]; (repeat (first | with_reducible exact HL.out | with_reducible apply LexAt.drewN | with_reducible apply LexAt.alloc | (with_reducible refine LexAt.far ?_ (by have := HX.out; omega))))
  have hW0 := (cells3 HLW).1
  have hW1 := (cells3 HLW).2.1
  have hW2 := (cells3 HLW).2.2.1
  have HMW : TMap W mb (tset kwList) := HM.out.grown (by rw [← HW.out]; (repeat (first | with_reducible exact World.grownBy.refl _ _ | with_reducible apply G_drewN | with_reducible apply G_alloc | (with_reducible refine G_set ?_ _ _ _ (by first | exact Or.inr rfl | exact Or.inl (by omega)))))) (fun e => HNE.out (Option.some.inj e))
  have hk : ∀ k, (Instr.lookup 44 (.map (some mb)) (.string (s.extract at_ (at_ + n))) false).run Tryd.prog (W.drewN k) = .ok (.bool true) (W.drewN k) := fun k => by
    have h1 := TMap.look (w := W.drewN k) HMW Tryd.underlying44 Tryd.underlying9 (zero4 _) (s.extract at_ (at_ + n)) false
    simp only [Bool.false_eq_true, if_false, tmGet_tset, HKW.out] at h1
    exact h1
  clear HMW
  go_quiet (fail)
  clear hk
  have hW := HW.out
  clear hW0 hW1 hW2 HLW HW
  subst hW
  go_wp2
  refine gen_world ?_
  intro W HW
  have HLW : LexAt W xb mb s at_ := by rw [← HW.out]; (repeat (first | with_reducible exact HL.out | with_reducible apply LexAt.drewN | with_reducible apply LexAt.alloc | (with_reducible refine LexAt.far ?_ (by have := HX.out; omega))))
  have hW0 := (cells3 HLW).1
  have hW1 := (cells3 HLW).2.1
  have hW2 := (cells3 HLW).2.2.1
  clear HLW
  go_still_tail 16, (by kernel_rfl)
  have hW := HW.out
  clear hW0 hW1 hW2 HW
  rw [show ({ W with drawn := W.drawn + 1 } : World) = W.drewN 1 from rfl]
  subst hW
  go_wp2
  refine bodyPost_ret (v := .tuple #[.agg #[.int .i64 3, .string (s.extract at_ (at_ + n)), .int .i64 (at_ : Int)], .int .i64 0]) (by simp [results, Tryd.results18, go_sem]) rfl ⟨rfl, ?_, ?_⟩
  · (repeat (first | with_reducible exact HL.out | with_reducible apply LexAt.drewN | with_reducible apply LexAt.alloc | with_reducible apply LexAt.move2 | (with_reducible refine LexAt.far ?_ (by have := HX.out; omega))))
  · (repeat (first | with_reducible exact World.grownBy.refl _ _ | with_reducible apply G_drewN | with_reducible apply G_alloc | (with_reducible refine G_set ?_ _ _ _ (by first | exact Or.inr rfl | exact Or.inl (by omega)))))
set_option maxHeartbeats 8000000 in
set_option maxRecDepth 100000 in
theorem next_name (xb mb : Nat) (s : ByteArray) (at_ : Nat) (w : World) (hL : LexAt w xb mb s at_) (hs : s.size ≤ 1000000) (ha : at_ < s.size)
    (n : Nat) (h0 : ((rest_ s at_).takeWhile isPt).length = n) (hn : n ≠ 0) (hn2 : at_ + n ≤ s.size) (hd : lex_isDigit.f (bt s (at_ : Int)) = some false) (hl : n ≤ 40) (hM : TMap w mb (tset kwList)) (hkw : decide (s.extract at_ (at_ + n) ∈ kwList) = false) :
    Calls Tryd.prog 18 #[ptr xb] w (TokPost w xb mb s 1 (s.extract at_ (at_ + n)) at_ 0 (at_ + n)) := by
  have HL := Aside0.mk hL
  have HS := Aside0.mk hs
  have HA := Aside0.mk ha
  have hc0 := (cells3 hL).1
  have hc1 := (cells3 hL).2.1
  have hc2 := (cells3 hL).2.2.1
  have hfz := (cells3 hL).2.2.2
  have hx := hL.lt
  have HX := Aside0.mk hx
  have hsz1 : (0 : Int) ≤ (at_ : Int) := by omega
  have hsz2 : (at_ : Int) ≤ (s.size : Int) := by omega
  have HSP : Aside0 (spanN isPartB s (s.size - at_) at_ = n) := ⟨by rw [spanN_eq part_is s _ at_ rfl, h0]⟩
  have hw1 : IntKind.i64.wrap ((at_ : Int) + (n : Int)) = (at_ : Int) + (n : Int) := IntWalk.i64_in _ (by omega)
  have hsz3 : (0 : Int) ≤ (at_ : Int) + (n : Int) := by omega
  have hsz4 : (at_ : Int) ≤ (at_ : Int) + (n : Int) := by omega
  have hsz5 : (at_ : Int) + (n : Int) ≤ (s.size : Int) := by omega
  have hb : (((n : Int)) == 0) = false := by rw [beq_eq_false_iff_ne]; omega
  have hi1 : (at_ : Int) < (s.size : Int) := by omega
  have hbt : ∀ h : at_ < s.size, (((s[at_]'h).toNat : Nat) : Int) = bt s (at_ : Int) := fun h => bt_at s (at_ : Int) h
  have HD := Aside0.mk hd
  have hbig : decide (40 < (n : Int)) = false := decide_eq_false (by omega)
  have HKW := Aside0.mk hkw
  have HNE : Aside0 (mb ≠ xb) := ⟨fun e => by subst e; exact hM.not_cells hL⟩
  have HM := Aside0.mk hM
  clear hL hs ha h0 hn hn2 hd hl hM hkw
  go_enter Tryd.func18, Tryd.ntmps18
  go_wp2_with (first
    | (go_at_call 26; go_must ((refine (span_calls30 isPartB pred30 xb s at_ _ (cells3 ((HL.out.alloc _))).1 (cells3 ((HL.out.alloc _))).2.1 HS.out (by have := HA.out; omega)).mono ?_); rintro e w' ⟨rfl, ⟨nd, rfl⟩⟩; rw [HSP.out])))
  refine gen_world ?_
  intro W HW
  have HLW : LexAt W xb mb s at_ := by rw [← HW.out]; (repeat (first | with_reducible exact HL.out | with_reducible apply LexAt.drewN | with_reducible apply LexAt.alloc | (with_reducible refine LexAt.far ?_ (by have := HX.out; omega))))
  have hW0 := (cells3 HLW).1
  have hW1 := (cells3 HLW).2.1
  have hW2 := (cells3 HLW).2.2.1
  go_quiet ((first | (go_at_call 23; (refine (lex_isDigit.calls _ false _ HD.out).mono ?_); rintro e w' ⟨rfl, ⟨nd3, rfl⟩⟩; (first | exact ⟨rfl, _, World.drewN_drewN _ _ _⟩ | exact ⟨rfl, _, Eq.trans (World.drewN_drewN _ _ _) (congrArg (World.drewN _) (Nat.add_assoc _ _ _))⟩)) | fail))
  have hW := HW.out
  clear hW0 hW1 hW2 HLW HW
  subst hW
  go_wp2
  refine gen_world ?_
  intro W HW
  have HLW : LexAt W xb mb s at_ := by rw [← HW.out]; (repeat (first | with_reducible exact HL.out | with_reducible apply LexAt.drewN | with_reducible apply LexAt.alloc | (with_reducible refine LexAt.far ?_ (by have := HX.out; omega))))
  have hW0 := (cells3 HLW).1
  have hW1 := (cells3 HLW).2.1
  have hW2 := (cells3 HLW).2.2.1
  have HMW : TMap W mb (tset kwList) := HM.out.grown (by rw [← HW.out]; (repeat (first | with_reducible exact World.grownBy.refl _ _ | with_reducible apply G_drewN | with_reducible apply G_alloc | (with_reducible refine G_set ?_ _ _ _ (by first | exact Or.inr rfl | exact Or.inl (by omega)))))) (fun e => HNE.out (Option.some.inj e))
  have hk : ∀ k, (Instr.lookup 44 (.map (some mb)) (.string (s.extract at_ (at_ + n))) false).run Tryd.prog (W.drewN k) = .ok (.bool false) (W.drewN k) := fun k => by
    have h1 := TMap.look (w := W.drewN k) HMW Tryd.underlying44 Tryd.underlying9 (zero4 _) (s.extract at_ (at_ + n)) false
    simp only [Bool.false_eq_true, if_false, tmGet_tset, HKW.out] at h1
    exact h1
  clear HMW
  go_quiet (fail)
  clear hk
  have hW := HW.out
  clear hW0 hW1 hW2 HLW HW
  subst hW
  go_wp2
  refine gen_world ?_
  intro W HW
  have HLW : LexAt W xb mb s at_ := by rw [← HW.out]; (repeat (first | with_reducible exact HL.out | with_reducible apply LexAt.drewN | with_reducible apply LexAt.alloc | (with_reducible refine LexAt.far ?_ (by have := HX.out; omega))))
  have hW0 := (cells3 HLW).1
  have hW1 := (cells3 HLW).2.1
  have hW2 := (cells3 HLW).2.2.1
  clear HLW
  go_still_tail 16, (by kernel_rfl)
  have hW := HW.out
  clear hW0 hW1 hW2 HW
  rw [show ({ W with drawn := W.drawn + 1 } : World) = W.drewN 1 from rfl]
  subst hW
  go_wp2
  refine bodyPost_ret (v := .tuple #[.agg #[.int .i64 1, .string (s.extract at_ (at_ + n)), .int .i64 (at_ : Int)], .int .i64 0]) (by simp [results, Tryd.results18, go_sem]) rfl ⟨rfl, ?_, ?_⟩
  · (repeat (first | with_reducible exact HL.out | with_reducible apply LexAt.drewN | with_reducible apply LexAt.alloc | with_reducible apply LexAt.move2 | (with_reducible refine LexAt.far ?_ (by have := HX.out; omega))))
  · (repeat (first | with_reducible exact World.grownBy.refl _ _ | with_reducible apply G_drewN | with_reducible apply G_alloc | (with_reducible refine G_set ?_ _ _ _ (by first | exact Or.inr rfl | exact Or.inl (by omega)))))
theorem kwList_eq : kwList = wordsL.map fun l => (⟨l.toArray⟩ : ByteArray) := by decide +kernel
theorem kw_mem (t : ByteArray) : decide (t ∈ kwList) = decide (t.data.toList ∈ wordsL) := by
  rw [Bool.eq_iff_iff, decide_eq_true_iff, decide_eq_true_iff, kwList_eq, List.mem_map]
  constructor
  · rintro ⟨l, hl, rfl⟩
    exact hl
  · intro h
    exact ⟨_, h, rfl⟩
theorem numP_err (l : List UInt8) : (numOk l = true → ∃ v t, numP l = (v, t, 0)) ∧ (numOk l = false → numP l = (0, ⟨#[]⟩, 21)) := by
  unfold numP
  constructor
  · intro h
    rw [if_pos h]
    exact ⟨_, _, rfl⟩
  · intro h
    rw [if_neg (by simp [h])]
/-- An error: the place is told. -/
def ErrPost (w : World) (xb mb : Nat) (s : ByteArray) (at_ : Nat) (er : Int) (e : Ending) (w' : World) : Prop := ∃ (kind : Int) (t : ByteArray), TokPost w xb mb s kind t at_ er at_ e w'
section
variable (xb mb : Nat) (s : ByteArray) (at_ : Nat) (w : World) (hL : LexAt w xb mb s at_) (hs : s.size ≤ 1000000) (ha : at_ < s.size)
include hL hs ha
theorem next_ok (hM : TMap w mb (tset kwList)) {kind : Int} {n : Nat} (ht : tokL (rest_ s at_) = .ok (kind, n)) :
    Calls Tryd.prog 18 #[ptr xb] w (TokPost w xb mb s kind (s.extract at_ (at_ + n)) at_ 0 (at_ + n)) := by
  have hn := tokL_len ht
  rw [rest_len] at hn
  have hn2 : at_ + n ≤ s.size := by omega
  unfold tokL at ht
  obtain ⟨c, hc, hb⟩ := rest_cons s at_ ha
  by_cases h0 : ((rest_ s at_).takeWhile isPt).length = 0
  · rw [if_pos h0] at ht
    by_cases h1 : signL (rest_ s at_) = 0
    · rw [if_pos h1] at ht; cases ht
    · rw [if_neg h1] at ht
      injection ht with ht
      injection ht with h2 h3
      subst h2
      exact next_sign xb mb s at_ w hL hs ha h0 n h3 (by omega) hn2
  · rw [if_neg h0] at ht
    have hd : lex_isDigit.f (bt s (at_ : Int)) = some (isDg c) := by rw [hb]; exact digit_is c
    have hh : (rest_ s at_).head?.any isDg = isDg c := by rw [hc]; rfl
    rw [hh] at ht
    have hlen : ((rest_ s at_).takeWhile isPt).length = n := by
      repeat' split at ht
      all_goals first | (cases ht; done) | (cases ht; rfl)
    have hx : (s.extract at_ (at_ + n)).data.toList = (rest_ s at_).takeWhile isPt := by
      rw [extract_list, Nat.add_sub_cancel_left, ← hlen, ← takeWhile_take]
    cases hq : isDg c with
    | true =>
      rw [hq] at hd ht
      rw [if_pos rfl] at ht
      cases hno : numOk ((rest_ s at_).takeWhile isPt) with
      | false => rw [hno, if_neg (by decide)] at ht; cases ht
      | true =>
        rw [hno, if_pos rfl] at ht
        injection ht with ht
        injection ht with h2 _
        subst h2
        obtain ⟨K, hK⟩ := (num_tot (s.extract at_ (at_ + n)) (by rw [ByteArray.size_extract]; omega)).get
        rw [hx] at hK
        obtain ⟨v, t, hv⟩ := (numP_err _).1 hno
        rw [hv] at hK
        exact next_int xb mb s at_ w hL hs ha n hlen (by omega) hn2 hd K v t hK
    | false =>
      rw [hq] at hd ht
      rw [if_neg (by decide)] at ht
      by_cases hl : 40 < ((rest_ s at_).takeWhile isPt).length
      · rw [if_pos hl] at ht; cases ht
      · rw [if_neg hl] at ht
        by_cases hw : (rest_ s at_).takeWhile isPt ∈ wordsL
        · rw [if_pos hw] at ht
          injection ht with ht
          injection ht with h2 _
          subst h2
          exact next_word xb mb s at_ w hL hs ha n hlen (by omega) hn2 hd (by omega) hM (by rw [kw_mem, hx]; exact decide_eq_true hw)
        · rw [if_neg hw] at ht
          injection ht with ht
          injection ht with h2 _
          subst h2
          exact next_name xb mb s at_ w hL hs ha n hlen (by omega) hn2 hd (by omega) hM (by rw [kw_mem, hx]; exact decide_eq_false hw)
theorem next_err {er : Int} (ht : tokL (rest_ s at_) = .error er) : Calls Tryd.prog 18 #[ptr xb] w (ErrPost w xb mb s at_ er) := by
  unfold tokL at ht
  obtain ⟨c, hc, hb⟩ := rest_cons s at_ ha
  have hle := takeWhile_length_le isPt (rest_ s at_)
  rw [rest_len] at hle
  by_cases h0 : ((rest_ s at_).takeWhile isPt).length = 0
  · rw [if_pos h0] at ht
    by_cases h1 : signL (rest_ s at_) = 0
    · rw [if_pos h1] at ht
      injection ht with ht
      subst ht
      exact (next_none xb mb s at_ w hL hs ha h0 h1).mono fun e w' h => ⟨_, _, h⟩
    · rw [if_neg h1] at ht; cases ht
  · rw [if_neg h0] at ht
    have hd : lex_isDigit.f (bt s (at_ : Int)) = some (isDg c) := by rw [hb]; exact digit_is c
    have hh : (rest_ s at_).head?.any isDg = isDg c := by rw [hc]; rfl
    rw [hh] at ht
    obtain ⟨n, hlen⟩ : ∃ n, ((rest_ s at_).takeWhile isPt).length = n := ⟨_, rfl⟩
    have hx : (s.extract at_ (at_ + n)).data.toList = (rest_ s at_).takeWhile isPt := by
      rw [extract_list, Nat.add_sub_cancel_left, ← hlen, ← takeWhile_take]
    cases hq : isDg c with
    | true =>
      rw [hq] at hd ht
      rw [if_pos rfl] at ht
      cases hno : numOk ((rest_ s at_).takeWhile isPt) with
      | true => rw [hno, if_pos rfl] at ht; cases ht
      | false =>
        rw [hno, if_neg (by decide)] at ht
        injection ht with ht
        subst ht
        obtain ⟨K, hK⟩ := (num_tot (s.extract at_ (at_ + n)) (by rw [ByteArray.size_extract]; omega)).get
        rw [hx, (numP_err _).2 hno] at hK
        exact (next_bad xb mb s at_ w hL hs ha n hlen (by omega) (by omega) hd K 0 ⟨#[]⟩ hK).mono fun e w' h => ⟨_, _, h⟩
    | false =>
      rw [hq] at hd ht
      rw [if_neg (by decide)] at ht
      by_cases hl : 40 < ((rest_ s at_).takeWhile isPt).length
      · rw [if_pos hl] at ht
        injection ht with ht
        subst ht
        exact (next_long xb mb s at_ w hL hs ha n hlen (by omega) (by omega) hd (by omega)).mono fun e w' h => ⟨_, _, h⟩
      · rw [if_neg hl] at ht
        split at ht <;> cases ht
end
end Go.Proofs.YtafjbebbmfihaaaDoor.P
