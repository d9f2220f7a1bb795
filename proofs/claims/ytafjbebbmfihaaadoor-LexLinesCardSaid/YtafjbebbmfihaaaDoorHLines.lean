/- LexLines where both texts are in order: the law answers true; the library's table of blanks is as it was laid. -/
import Derived.Test.YtafjbebbmfihaaaDoorHLex
import Derived.Test.YtafjbebbmfihaaaDoorPx1
import Derived.Test.YtafjbebbmfihaaaDoorLParts
namespace Go.Proofs.YtafjbebbmfihaaaDoor.P
open Go.RowKit Go.Proofs.YtafjbebbmfihaaaDoorW.PrintWords Go.Proofs.YtafjbebbmfihaaaDoorW.PrintLast Go.Proofs.YtafjbebbmfihaaaDoorW.PrintMore
attribute [local go_sem high] eqA39
set_option linter.unusedVariables false
set_option linter.unusedSimpArgs false
set_option linter.unusedSectionVars false
theorem lexf (k : Nat) (s : ByteArray) (L : List S39) (n e : Int) (h : lexP s = (L, n, e)) : lex_Lex.f k s = some (L, n, e) := by
  unfold lex_Lex.f
  rw [h]
theorem cells3f {w : World} {b : Nat} {x y z : Value} {t : TypeId} (h : w.heap[b]? = some (.cells #[x, y, z] t (0, 0))) : w.frozen? ⟨b, 0, none⟩ = false ∧ w.frozen? ⟨b, 1, none⟩ = false ∧ w.frozen? ⟨b, 2, none⟩ = false := by
  refine ⟨?_, ?_, ?_⟩
  · unfold World.frozen?
    dsimp only
    rw [h]
    rfl
  · unfold World.frozen?
    dsimp only
    rw [h]
    rfl
  · unfold World.frozen?
    dsimp only
    rw [h]
    rfl
theorem box_set {w : World} {b : Nat} {x y z x2 y2 z2 : Value} {t : TypeId} (h : w.heap[b]? = some (.cells #[x, y, z] t (0, 0))) :
    (((w.setCell ⟨b, 0, none⟩ x2).setCell ⟨b, 1, none⟩ y2).setCell ⟨b, 2, none⟩ z2).heap[b]? = some (.cells #[x2, y2, z2] t (0, 0)) := by
  have h1 := heap_setCell_same w b 0 #[x, y, z] t x2 h
  have h2 := heap_setCell_same _ b 1 _ t y2 h1
  have h3 := heap_setCell_same _ b 2 _ t z2 h2
  simpa using h3
/-- The law answers true. -/
def LinesPost (w : World) (e : Ending) (w' : World) : Prop := e = .returned (.bool true) ∧ Below w.heap.size w w'
section
variable (a b : ByteArray) (w : World) (hG : Gl w)
include hG
set_option maxHeartbeats 4000000 in
set_option maxRecDepth 100000 in
theorem lines_big (hs : 20000 < a.size + b.size) (hs2 : a.size ≤ 140737488351232) (hs3 : b.size ≤ 140737488351232) : Calls Tryd.prog 6 #[.string a, .string b] w (LinesPost w) := by
  have hw1 : IntKind.i64.wrap ((a.size : Int) + (b.size : Int)) = (a.size : Int) + (b.size : Int) := IntWalk.i64_in _ (by omega)
  have hd : decide (20000 < (a.size : Int) + (b.size : Int)) = true := decide_eq_true (by omega)
  clear hs hs2 hs3 hG
  go_enter Tryd.func6, Tryd.ntmps6
  go_wp2
  go_ret
  exact ⟨rfl, Below.refl _ _⟩
/-- What the bounds say of the sums. -/
theorem sizes_of (h : a.size + b.size ≤ 20000) : ((a ++ (⟨#[10]⟩ : ByteArray)) ++ b).size = a.size + 1 + b.size := by
  rw [ByteArray.size_append, ByteArray.size_append]
  rfl
set_option maxHeartbeats 8000000 in
set_option maxRecDepth 100000 in
theorem lines_bad1 (hs : a.size + b.size ≤ 20000) (p : Int) (e1 : Int) (he : e1 ≠ 0) (M : List S39) (q e2 : Int) (h1 : lexP a = ([], p, e1)) (h2 : lexP b = (M, q, e2)) (h3 : lexP ((a ++ (⟨#[10]⟩ : ByteArray)) ++ b) = ([], p, e1)) : Calls Tryd.prog 6 #[.string a, .string b] w (LinesPost w) := by
  have HG := Aside0.mk hG
  have H1 := Aside0.mk h1
  have H2 := Aside0.mk h2
  have H3 := Aside0.mk h3
  have HB := Aside0.mk (Below.refl w.heap.size w)
  have hw1 : IntKind.i64.wrap ((a.size : Int) + (b.size : Int)) = (a.size : Int) + (b.size : Int) := IntWalk.i64_in _ (by omega)
  have hd : decide (20000 < (a.size : Int) + (b.size : Int)) = false := decide_eq_false (by omega)
  have z1 : decide (a.size + 1 ≤ 9223372036854775807) = true := decide_eq_true (by omega)
  have z2 : (9223372036854775807 < a.size + 1) = False := eq_false (by omega)
  have z3 : (9223372036854775807 < a.size + 1 + b.size) = False := eq_false (by omega)
  have b1 : (e1 != 0) = true := by simpa using he
  have b2 : (e1 == e1) = true := by simp
  have b3 : (p == p) = true := by simp
  clear hG h1 h2 h3 hs he
  go_enter Tryd.func6, Tryd.ntmps6
  go_wp2_with (first
    | (go_at_call 8; ((with_reducible refine (lex_Lex.calls 0 a [] p e1 _ (Gl.below HG.out (by repeat (first | (with_reducible first | exact HB.out | apply below_alloc | apply pw_below_drewN | apply below_drew1) | exact HB.out))) (lexf 0 _ _ _ _ H1.out)).mono ?_); rintro e w1 ⟨v1, rfl, ho, hb⟩; have hb2 := below_step (by repeat (first | (with_reducible first | exact HB.out | apply below_alloc | apply pw_below_drewN | apply below_drew1) | exact HB.out)) hb; have HV1 := Aside0.mk ho; have HW1 := Aside0.mk hb; clear HB; have HB := Aside0.mk hb2; clear ho hb hb2))
    | (go_at_call 8; ((with_reducible refine (lex_Lex.calls 0 b M q e2 _ (Gl.below HG.out (by repeat (first | (with_reducible first | exact HB.out | apply below_alloc | apply pw_below_drewN | apply below_drew1) | exact HB.out))) (lexf 0 _ _ _ _ H2.out)).mono ?_); rintro e w2 ⟨v2, rfl, ho, hb⟩; have hb2 := below_step (by repeat (first | (with_reducible first | exact HB.out | apply below_alloc | apply pw_below_drewN | apply below_drew1) | exact HB.out)) hb; have HV2 := Aside0.mk ho; have HW2 := Aside0.mk hb; clear HB; have HB := Aside0.mk hb2; clear ho hb hb2))
    | (go_at_call 8; ((with_reducible refine (lex_Lex.calls 0 ((a ++ (⟨#[10]⟩ : ByteArray)) ++ b) [] p e1 _ (Gl.below HG.out (by repeat (first | (with_reducible first | exact HB.out | apply below_alloc | apply pw_below_drewN | apply below_drew1) | exact HB.out))) (lexf 0 _ _ _ _ H3.out)).mono ?_); rintro e w3 ⟨v3, rfl, ho, hb⟩; have hb2 := below_step (by repeat (first | (with_reducible first | exact HB.out | apply below_alloc | apply pw_below_drewN | apply below_drew1) | exact HB.out)) hb; have HV3 := Aside0.mk ho; have HW3 := Aside0.mk hb; clear HB; have HB := Aside0.mk hb2; clear ho hb hb2)))
  go_ret
  exact ⟨rfl, HB.out⟩
set_option maxHeartbeats 8000000 in
set_option maxRecDepth 100000 in
theorem lines_bad2 (hs : a.size + b.size ≤ 20000) (L : List S39) (q : Nat) (hq : q ≤ 20000) (e2 : Int) (he : e2 ≠ 0) (h1 : lexP a = (L, 0, 0)) (h2 : lexP b = ([], (q : Int), e2)) (h3 : lexP ((a ++ (⟨#[10]⟩ : ByteArray)) ++ b) = ([], (a.size : Int) + 1 + (q : Int), e2)) : Calls Tryd.prog 6 #[.string a, .string b] w (LinesPost w) := by
  have HG := Aside0.mk hG
  have H1 := Aside0.mk h1
  have H2 := Aside0.mk h2
  have H3 := Aside0.mk h3
  have HB := Aside0.mk (Below.refl w.heap.size w)
  have hw1 : IntKind.i64.wrap ((a.size : Int) + (b.size : Int)) = (a.size : Int) + (b.size : Int) := IntWalk.i64_in _ (by omega)
  have hd : decide (20000 < (a.size : Int) + (b.size : Int)) = false := decide_eq_false (by omega)
  have z1 : decide (a.size + 1 ≤ 9223372036854775807) = true := decide_eq_true (by omega)
  have z2 : (9223372036854775807 < a.size + 1) = False := eq_false (by omega)
  have z3 : (9223372036854775807 < a.size + 1 + b.size) = False := eq_false (by omega)
  have b1 : (e2 != 0) = true := by simpa using he
  have b2 : (e2 == e2) = true := by simp
  have s1 : IntKind.i64.wrap ((a.size : Int) + 1) = (a.size : Int) + 1 := IntWalk.i64_in _ (by omega)
  have s2 : IntKind.i64.wrap ((a.size : Int) + 1 + (q : Int)) = (a.size : Int) + 1 + (q : Int) := IntWalk.i64_in _ (by omega)
  have b3 : (((a.size : Int) + 1 + (q : Int)) == ((a.size : Int) + 1 + (q : Int))) = true := by simp
  clear hG h1 h2 h3 hs he hq
  go_enter Tryd.func6, Tryd.ntmps6
  go_wp2_with (first
    | (go_at_call 8; ((with_reducible refine (lex_Lex.calls 0 a L 0 0 _ (Gl.below HG.out (by repeat (first | (with_reducible first | exact HB.out | apply below_alloc | apply pw_below_drewN | apply below_drew1) | exact HB.out))) (lexf 0 _ _ _ _ H1.out)).mono ?_); rintro e w1 ⟨v1, rfl, ho, hb⟩; have hb2 := below_step (by repeat (first | (with_reducible first | exact HB.out | apply below_alloc | apply pw_below_drewN | apply below_drew1) | exact HB.out)) hb; have HV1 := Aside0.mk ho; have HW1 := Aside0.mk hb; clear HB; have HB := Aside0.mk hb2; clear ho hb hb2))
    | (go_at_call 8; ((with_reducible refine (lex_Lex.calls 0 b [] (q : Int) e2 _ (Gl.below HG.out (by repeat (first | (with_reducible first | exact HB.out | apply below_alloc | apply pw_below_drewN | apply below_drew1) | exact HB.out))) (lexf 0 _ _ _ _ H2.out)).mono ?_); rintro e w2 ⟨v2, rfl, ho, hb⟩; have hb2 := below_step (by repeat (first | (with_reducible first | exact HB.out | apply below_alloc | apply pw_below_drewN | apply below_drew1) | exact HB.out)) hb; have HV2 := Aside0.mk ho; have HW2 := Aside0.mk hb; clear HB; have HB := Aside0.mk hb2; clear ho hb hb2))
    | (go_at_call 8; ((with_reducible refine (lex_Lex.calls 0 ((a ++ (⟨#[10]⟩ : ByteArray)) ++ b) [] ((a.size : Int) + 1 + (q : Int)) e2 _ (Gl.below HG.out (by repeat (first | (with_reducible first | exact HB.out | apply below_alloc | apply pw_below_drewN | apply below_drew1) | exact HB.out))) (lexf 0 _ _ _ _ H3.out)).mono ?_); rintro e w3 ⟨v3, rfl, ho, hb⟩; have hb2 := below_step (by repeat (first | (with_reducible first | exact HB.out | apply below_alloc | apply pw_below_drewN | apply below_drew1) | exact HB.out)) hb; have HV3 := Aside0.mk ho; have HW3 := Aside0.mk hb; clear HB; have HB := Aside0.mk hb2; clear ho hb hb2)))
  go_ret
  exact ⟨rfl, HB.out⟩
set_option maxHeartbeats 8000000 in
set_option maxRecDepth 100000 in
theorem lines_ok (hs : a.size + b.size ≤ 20000) (L M A : List S39) (h1 : lexP a = (L, 0, 0)) (h2 : lexP b = (M, 0, 0)) (h3 : lexP ((a ++ (⟨#[10]⟩ : ByteArray)) ++ b) = (A, 0, 0)) (hLl : L.length ≤ 20000) (hMl : M.length ≤ 20000)
    (hAl : A.length = L.length + M.length) (hA1 : ∀ z : Int, 0 ≤ z → z < (L.length : Int) → rd_T39 A z = rd_T39 L z) (hA2 : ∀ z : Int, (L.length : Int) ≤ z → z < (A.length : Int) → rd_T39 A z = ⟨(rd_T39 M (z - (L.length : Int))).f0, (rd_T39 M (z - (L.length : Int))).f1, (rd_T39 M (z - (L.length : Int))).f2 + (a.size : Int) + 1⟩)
    (hMb : ∀ z : Int, 0 ≤ z → z < (M.length : Int) → 0 ≤ (rd_T39 M z).f2 ∧ (rd_T39 M z).f2 ≤ 20000)
    (X : List S39) (hX : lexP (⟨#[120, 10, 121]⟩ : ByteArray) = (X, 0, 0)) (hXl : X.length = 2) : Calls Tryd.prog 6 #[.string a, .string b] w (LinesPost w) := by
  have HG := Aside0.mk hG
  have H1 := Aside0.mk h1
  have H2 := Aside0.mk h2
  have H3 := Aside0.mk h3
  have HB := Aside0.mk (Below.refl w.heap.size w)
  have HX := Aside0.mk hX
  have HXL := Aside0.mk hXl
  have HLL := Aside0.mk hLl
  have HML := Aside0.mk hMl
  have HAL := Aside0.mk hAl
  have HA1 := Aside0.mk hA1
  have HA2 := Aside0.mk hA2
  have HMB := Aside0.mk hMb
  have HSZ := Aside0.mk hs
  have hw1 : IntKind.i64.wrap ((a.size : Int) + (b.size : Int)) = (a.size : Int) + (b.size : Int) := IntWalk.i64_in _ (by omega)
  have hd : decide (20000 < (a.size : Int) + (b.size : Int)) = false := decide_eq_false (by omega)
  have z1 : decide (a.size + 1 ≤ 9223372036854775807) = true := decide_eq_true (by omega)
  have z2 : (9223372036854775807 < a.size + 1) = False := eq_false (by omega)
  have z3 : (9223372036854775807 < a.size + 1 + b.size) = False := eq_false (by omega)
  have s1 : IntKind.i64.wrap ((L.length : Int) + (M.length : Int)) = (L.length : Int) + (M.length : Int) := IntWalk.i64_in _ (by omega)
  have b4 : ((A.length : Int) == (L.length : Int) + (M.length : Int)) = true := by rw [beq_iff_eq]; omega
  have b5 : ((A.length : Int) != (L.length : Int) + (M.length : Int)) = false := by rw [bne_eq_false_iff_eq]; omega
  clear hG h1 h2 h3 hs hX hXl hLl hMl hAl hA1 hA2 hMb
  go_enter Tryd.func6, Tryd.ntmps6
  go_upto_region 6 with (first
    | (go_at_call 8; ((with_reducible refine (lex_Lex.calls 0 a L 0 0 _ (Gl.below HG.out (by repeat (first | (with_reducible first | exact HB.out | apply below_alloc | apply pw_below_drewN | apply below_drew1) | exact HB.out))) (lexf 0 _ _ _ _ H1.out)).mono ?_); rintro e w1 ⟨v1, rfl, ho, hb⟩; have hb2 := below_step (by repeat (first | (with_reducible first | exact HB.out | apply below_alloc | apply pw_below_drewN | apply below_drew1) | exact HB.out)) hb; have HV1 := Aside0.mk ho; have HW1 := Aside0.mk hb; clear HB; have HB := Aside0.mk hb2; clear ho hb hb2))
    | (go_at_call 8; ((with_reducible refine (lex_Lex.calls 0 b M 0 0 _ (Gl.below HG.out (by repeat (first | (with_reducible first | exact HB.out | apply below_alloc | apply pw_below_drewN | apply below_drew1) | exact HB.out))) (lexf 0 _ _ _ _ H2.out)).mono ?_); rintro e w2 ⟨v2, rfl, ho, hb⟩; have hb2 := below_step (by repeat (first | (with_reducible first | exact HB.out | apply below_alloc | apply pw_below_drewN | apply below_drew1) | exact HB.out)) hb; have HV2 := Aside0.mk ho; have HW2 := Aside0.mk hb; clear HB; have HB := Aside0.mk hb2; clear ho hb hb2))
    | (go_at_call 8; ((with_reducible refine (lex_Lex.calls 0 ((a ++ (⟨#[10]⟩ : ByteArray)) ++ b) A 0 0 _ (Gl.below HG.out (by repeat (first | (with_reducible first | exact HB.out | apply below_alloc | apply pw_below_drewN | apply below_drew1) | exact HB.out))) (lexf 0 _ _ _ _ H3.out)).mono ?_); rintro e w3 ⟨v3, rfl, ho, hb⟩; have hb2 := below_step (by repeat (first | (with_reducible first | exact HB.out | apply below_alloc | apply pw_below_drewN | apply below_drew1) | exact HB.out)) hb; have HV3 := Aside0.mk ho; have HW3 := Aside0.mk hb; clear HB; have HB := Aside0.mk hb2; clear ho hb hb2)))
  obtain ⟨A1, c1, e1⟩ := Kd.V_slice HV1.out
  subst e1
  obtain ⟨A2, c2, e2⟩ := Kd.V_slice HV2.out
  subst e2
  obtain ⟨A3, c3, e3⟩ := Kd.V_slice HV3.out
  subst e3
  have HC1 := Aside0.mk (Kd.C_below (Kd.C_below (Kd.V_reads' HV1.out).2.2 HW2.out) HW3.out)
  have HC2 := Aside0.mk (Kd.C_below (Kd.V_reads' HV2.out).2.2 HW3.out)
  have HC3 := Aside0.mk (Kd.V_reads' HV3.out).2.2
  clear HV1 HV2 HV3 HW1 HW2 HW3
  go_wp2
  go_loopw [14] (fun v14 wr => ∃ z : Int, v14 = .int .i64 z ∧ Aside0 (0 ≤ z) ∧ Aside0 (z ≤ (A.length : Int)) ∧ Aside0 (Kd.C k39 wr A1 L.length L) ∧ Aside0 (Kd.C k39 wr A2 M.length M) ∧ Aside0 (Kd.C k39 wr A3 A.length A) ∧ Aside0 (Below w.heap.size w wr)) (fun v14 _ => ((A.length : Int) - intOf v14).toNat)
  case atStart => exact ⟨0, rfl, ⟨Int.le_refl _⟩, ⟨by omega⟩, HC1, HC2, HC3, HB⟩
  case round =>
    clear HC1 HC2 HC3 HB
    obtain ⟨z, rfl, HZ0, HZ1, HC1, HC2, HC3, HB⟩ := hrel
    by_cases hlt : z < (A.length : Int)
    · have hdz : decide (z < (A.length : Int)) = true := decide_eq_true hlt
      have hw9 : IntKind.i64.wrap (z + 1) = z + 1 := IntWalk.i64_in _ (by have := HZ0.out; have := HAL.out; have := HLL.out; have := HML.out; omega)
      have HLT := Aside0.mk hlt
      by_cases hl : z < (L.length : Int)
      · have hdl : decide (z < (L.length : Int)) = true := decide_eq_true hl
        have HRD := Aside0.mk (HA1.out z HZ0.out hl)
        have HL := Aside0.mk hl
        clear hl hlt
        go_upto_region 16 with (fail)
        refine gen_world ?_
        intro W1 HW1
        have BX1 : W1.heap[wr.heap.size]? = some (.cells #[.int .i64 0, .string ⟨#[]⟩, .int .i64 0] 39 (0, 0)) := by rw [← HW1.out]; exact heap_alloc_new wr _
        have HB1 : Aside0 (Below wr.heap.size wr W1) := ⟨by rw [← HW1.out]; exact below_alloc (Below.refl _ _) _⟩
        have HBX1 := Aside0.mk BX1
        have q0 := (cells3 BX1).1
        have q1 := (cells3 BX1).2.1
        have q2 := (cells3 BX1).2.2.1
        have f0 := (cells3f BX1).1
        have f1 := (cells3f BX1).2.1
        have f2 := (cells3f BX1).2.2
        have HC1' := Aside0.mk HC1.out
        obtain ⟨ad1, e1, x0, x1, x2⟩ := at_T39 (Kd.C_below HC1.out HB1.out) z HZ0.out HL.out
        subst e1
        have p0 := eq_true HZ0.out
        have p1 := eq_true HL.out
        clear BX1 HW1
        go_upto_region 20 with (fail)
        refine gen_world ?_
        intro W2 HW2
        have BX2 : W2.heap[wr.heap.size]? = some (.cells #[.int .i64 (rd_T39 L z).f0, .string (rd_T39 L z).f1, .int .i64 (rd_T39 L z).f2] 39 (0, 0)) := by rw [← HW2.out]; exact box_set HBX1.out
        have HB2 : Aside0 (Below wr.heap.size wr W2) := ⟨by rw [← HW2.out]; exact ((HB1.out.setCell (Nat.le_refl _) _).setCell (Nat.le_refl _) _).setCell (Nat.le_refl _) _⟩
        have r0 := (cells3 BX2).1
        have r1 := (cells3 BX2).2.1
        have r2 := (cells3 BX2).2.2.1
        obtain ⟨ad3, e3, y0, y1, y2⟩ := at_T39 (Kd.C_below HC3.out HB2.out) z HZ0.out HLT.out
        subst e3
        rw [HRD.out] at y0 y1 y2
        have p2 := eq_true HLT.out
        clear x0 x1 x2 q0 q1 q2 f0 f1 f2 BX2 HW2
        go_quiet (fail)
        go_wp2
        go_roundw
        case measure => have h1 := HLT.out; have h2 := HZ0.out; simp [intOf]; omega
        case rel => exact ⟨z + 1, rfl, ⟨by have := HZ0.out; omega⟩, ⟨by have := HLT.out; omega⟩, ⟨Kd.C_below HC1.out (by apply pw_below_drewN; exact HB2.out)⟩, ⟨Kd.C_below HC2.out (by apply pw_below_drewN; exact HB2.out)⟩, ⟨Kd.C_below HC3.out (by apply pw_below_drewN; exact HB2.out)⟩, ⟨below_step HB.out (by apply pw_below_drewN; exact HB2.out)⟩⟩
      · have hdl : decide (z < (L.length : Int)) = false := decide_eq_false hl
        have hj0 : 0 ≤ z - (L.length : Int) := by omega
        have hj1 : z - (L.length : Int) < (M.length : Int) := by have := HAL.out; omega
        have HRD := Aside0.mk (HA2.out z (by omega) hlt)
        have hwj : IntKind.i64.wrap (z - (L.length : Int)) = z - (L.length : Int) := IntWalk.i64_in _ (by have := HML.out; omega)
        have HJ1 := Aside0.mk hj1
        have hmb := HMB.out _ hj0 hj1
        have hws1 : IntKind.i64.wrap ((rd_T39 M (z - (L.length : Int))).f2 + (a.size : Int)) = (rd_T39 M (z - (L.length : Int))).f2 + (a.size : Int) := IntWalk.i64_in _ (by have := HSZ.out; omega)
        have hws2 : IntKind.i64.wrap ((rd_T39 M (z - (L.length : Int))).f2 + (a.size : Int) + 1) = (rd_T39 M (z - (L.length : Int))).f2 + (a.size : Int) + 1 := IntWalk.i64_in _ (by have := HSZ.out; omega)
        obtain ⟨j, hj⟩ : ∃ j : Int, z - (L.length : Int) = j := ⟨_, rfl⟩
        have HJ := Aside0.mk hj
        have hwj1 : IntKind.i64.wrap (z - (L.length : Int)) = j := hwj.trans hj
        have hwj2 : wrap64 (z - (L.length : Int)) = j := (i64_w _).symm.trans hwj1
        rw [hj] at hj0 hj1 hws1 hws2
        have HJ0 := Aside0.mk hj0
        have HJ1 := Aside0.mk hj1
        rw [hj] at HRD
        clear hl hlt hmb hj hj0 hj1 hwj
        go_upto_region 16 with (fail)
        refine gen_world ?_
        intro W1 HW1
        have BX1 : W1.heap[wr.heap.size]? = some (.cells #[.int .i64 0, .string ⟨#[]⟩, .int .i64 0] 39 (0, 0)) := by rw [← HW1.out]; exact heap_alloc_new wr _
        have HB1 : Aside0 (Below wr.heap.size wr W1) := ⟨by rw [← HW1.out]; exact below_alloc (Below.refl _ _) _⟩
        have HBX1 := Aside0.mk BX1
        have q0 := (cells3 BX1).1
        have q1 := (cells3 BX1).2.1
        have q2 := (cells3 BX1).2.2.1
        have f0 := (cells3f BX1).1
        have f1 := (cells3f BX1).2.1
        have f2 := (cells3f BX1).2.2
        obtain ⟨ad2, e2, x0, x1, x2⟩ := at_T39 (Kd.C_below HC2.out HB1.out) j HJ0.out HJ1.out
        subst e2
        have p0 := eq_true HJ0.out
        have p1 := eq_true HJ1.out
        clear BX1 HW1
        go_upto_region 19 with (fail)
        refine gen_world ?_
        intro W2 HW2
        have BX2 : W2.heap[wr.heap.size]? = some (.cells #[.int .i64 (rd_T39 M j).f0, .string (rd_T39 M j).f1, .int .i64 (rd_T39 M j).f2] 39 (0, 0)) := by rw [← HW2.out]; exact box_set HBX1.out
        have HB2 : Aside0 (Below wr.heap.size wr W2) := ⟨by rw [← HW2.out]; exact ((HB1.out.setCell (Nat.le_refl _) _).setCell (Nat.le_refl _) _).setCell (Nat.le_refl _) _⟩
        have HBX2 := Aside0.mk BX2
        have r2 := (cells3 BX2).2.2.1
        have g2 := (cells3f BX2).2.2
        clear x0 x1 x2 q0 q1 q2 f0 f1 f2 BX2 HW2
        go_upto_region 20 with (fail)
        refine gen_world ?_
        intro W3 HW3
        have BX3 : W3.heap[wr.heap.size]? = some (.cells #[.int .i64 (rd_T39 M j).f0, .string (rd_T39 M j).f1, .int .i64 ((rd_T39 M j).f2 + (a.size : Int) + 1)] 39 (0, 0)) := by
          rw [← HW3.out]
          have := heap_setCell_same W2 wr.heap.size 2 _ 39 (.int .i64 ((rd_T39 M j).f2 + (a.size : Int) + 1)) HBX2.out
          simpa using this
        have HB3 : Aside0 (Below wr.heap.size wr W3) := ⟨by rw [← HW3.out]; exact HB2.out.setCell (Nat.le_refl _) _⟩
        have t0 := (cells3 BX3).1
        have t1 := (cells3 BX3).2.1
        have t2 := (cells3 BX3).2.2.1
        obtain ⟨ad3, e3, y0, y1, y2⟩ := at_T39 (Kd.C_below HC3.out HB3.out) z HZ0.out HLT.out
        subst e3
        rw [HRD.out] at y0 y1 y2
        have p2 := eq_true HZ0.out
        have p3 := eq_true HLT.out
        clear r2 g2 BX3 HW3
        go_quiet (fail)
        go_wp2
        go_roundw
        case measure => have h1 := HLT.out; have h2 := HZ0.out; simp [intOf]; omega
        case rel => exact ⟨z + 1, rfl, ⟨by have := HZ0.out; omega⟩, ⟨by have := HLT.out; omega⟩, ⟨Kd.C_below HC1.out (by apply pw_below_drewN; exact HB3.out)⟩, ⟨Kd.C_below HC2.out (by apply pw_below_drewN; exact HB3.out)⟩, ⟨Kd.C_below HC3.out (by apply pw_below_drewN; exact HB3.out)⟩, ⟨below_step HB.out (by apply pw_below_drewN; exact HB3.out)⟩⟩
    · have hdz : decide (z < (A.length : Int)) = false := decide_eq_false hlt
      clear hlt
      go_upto_region 23 with (first
        | (go_at_call 8; ((with_reducible refine (lex_Lex.calls 0 (⟨#[120, 10, 121]⟩ : ByteArray) X 0 0 _ (Gl.below HG.out HB.out) (lexf 0 _ _ _ _ HX.out)).mono ?_); rintro e w9 ⟨v9, rfl, ho, hb⟩; have hb2 := below_step HB.out hb; have HV9 := Aside0.mk ho; clear HB; have HB := Aside0.mk hb2; clear ho hb hb2)))
      obtain ⟨A9, c9, e9⟩ := Kd.V_slice HV9.out
      subst e9
      have b9 : ((X.length : Int) == 2) = true := by rw [HXL.out]; rfl
      go_wp2
      go_ret
      exact ⟨rfl, HB.out⟩
end
theorem lexA_pos : ∀ (k : Nat) (l : List UInt8) (at_ : Nat) (ts : List S39), l.length ≤ k → lexA l at_ = .ok ts → ∀ t ∈ ts, (at_ : Int) ≤ t.f2 ∧ t.f2 < (at_ : Int) + (l.length : Int) := by
  intro k
  induction k with
  | zero =>
    intro l at_ ts hl h t ht
    obtain rfl : l = [] := List.eq_nil_of_length_eq_zero (by omega)
    rw [lexA_done at_ rfl] at h
    injection h with h
    rw [← h] at ht
    cases ht
  | succ k ih =>
    intro l at_ ts hl h t ht
    have hle := skipG_le false l
    by_cases hd : l.drop (skipG false l) = []
    · rw [lexA_done at_ hd] at h
      injection h with h
      rw [← h] at ht
      cases ht
    · have hlt : skipG false l < l.length := by
        have : ¬ (l.drop (skipG false l)).length = 0 := fun h => hd (List.eq_nil_of_length_eq_zero h)
        simp at this
        omega
      cases htk : tokL (l.drop (skipG false l)) with
      | error e => rw [lexA_bad at_ hd htk] at h; cases h
      | ok p =>
        obtain ⟨kind, n⟩ := p
        have hn := tokL_len htk
        rw [lexA_tok at_ hd htk] at h
        have hl3 : (l.drop (skipG false l)).length = l.length - skipG false l := by simp
        have hl2 : ((l.drop (skipG false l)).drop n).length = l.length - skipG false l - n := by simp; omega
        cases hx : lexA ((l.drop (skipG false l)).drop n) (at_ + skipG false l + n) with
        | error e => rw [hx] at h; cases h
        | ok us =>
          rw [hx] at h
          injection h with h
          rw [← h] at ht
          rcases List.mem_cons.1 ht with rfl | ht
          · show (at_ : Int) ≤ ((at_ + skipG false l : Nat) : Int) ∧ ((at_ + skipG false l : Nat) : Int) < _
            omega
          · have := ih _ _ _ (by omega) hx t ht
            omega
theorem rd_left (L M : List S39) (z : Int) (h0 : 0 ≤ z) (h1 : z < (L.length : Int)) : rd_T39 (L ++ M) z = rd_T39 L z := by
  unfold rd_T39
  rw [List.getD_eq_getElem?_getD, List.getD_eq_getElem?_getD, List.getElem?_append_left (by omega)]
theorem rd_right (L M : List S39) (d : Nat) (z : Int) (h0 : (L.length : Int) ≤ z) (h1 : z < ((L ++ M.map (shiftT d)).length : Int)) : rd_T39 (L ++ M.map (shiftT d)) z = shiftT d (rd_T39 M (z - (L.length : Int))) := by
  rw [List.length_append, List.length_map] at h1
  obtain ⟨j, hj⟩ : ∃ j : Nat, z = ((L.length + j : Nat) : Int) := ⟨(z - (L.length : Int)).toNat, by omega⟩
  have e : (z - (L.length : Int)).toNat = j := by omega
  have e2 : z.toNat = L.length + j := by omega
  unfold rd_T39
  rw [e, e2, List.getD_eq_getElem?_getD, List.getD_eq_getElem?_getD, List.getElem?_append_right (by omega), Nat.add_sub_cancel_left, List.getElem?_map, List.getElem?_eq_getElem (by omega)]
  rfl
theorem rd_mem (M : List S39) (z : Int) (h0 : 0 ≤ z) (h1 : z < (M.length : Int)) : rd_T39 M z ∈ M := by
  unfold rd_T39
  rw [List.getD_eq_getElem?_getD, List.getElem?_eq_getElem (show z.toNat < M.length by omega), Option.getD_some]
  exact List.getElem_mem _
theorem lines_walk (a b : ByteArray) (w : World) (hG : Gl w) (w0 : a.size ≤ 140737488351232) (w1 : b.size ≤ 140737488351232) :
    Calls Tryd.prog 6 #[.string a, .string b] w fun e w' => e = .returned (.bool true) ∧ Below w.heap.size w w' := by
  by_cases hbig : 20000 < a.size + b.size
  · exact (lines_big a b w hG hbig w0 w1).mono fun e w' h => h
  have hs : a.size + b.size ≤ 20000 := by omega
  have hsz := sizes_of a b w hG hs
  have ha : a.data.toList.length = a.size := Array.length_toList
  have hb : b.data.toList.length = b.size := Array.length_toList
  have hl : ((a ++ (⟨#[10]⟩ : ByteArray)) ++ b).data.toList = a.data.toList ++ 10 :: b.data.toList := by
    rw [ByteArray.data_append, Array.toList_append, ByteArray.data_append, Array.toList_append]
    simp
  have h3 : lexP ((a ++ (⟨#[10]⟩ : ByteArray)) ++ b) = lexR (bothE (lexA a.data.toList 0) (shiftE (a.size + 1) (lexA b.data.toList 0))) := by
    rw [lexP_eq _ (by omega), hl, lexA_lines b.data.toList _ a.data.toList 0 (Nat.le_refl _), ha, ← lexA_shift b.data.toList 0 (a.size + 1)]
    rw [show 0 + a.size + 1 = 0 + (a.size + 1) by omega]
  have h1 : lexP a = lexR (lexA a.data.toList 0) := lexP_eq a (by omega)
  have h2 : lexP b = lexR (lexA b.data.toList 0) := lexP_eq b (by omega)
  cases hA : lexA a.data.toList 0 with
  | error pe =>
    obtain ⟨p, e⟩ := pe
    rw [hA] at h1 h3
    have he := (lexA_error _ _ _ _ _ (Nat.le_refl _) hA).2.2
    have he0 : e ≠ 0 := by rcases he with h | h <;> rw [h] <;> decide
    obtain ⟨M, q, e2, hq⟩ : ∃ M q e2, lexP b = (M, q, e2) := ⟨_, _, _, rfl⟩
    exact (lines_bad1 a b w hG hs (p : Int) e he0 M q e2 h1 hq h3).mono fun e w' h => h
  | ok L =>
    rw [hA] at h1 h3
    cases hB : lexA b.data.toList 0 with
    | error pe =>
      obtain ⟨q, e⟩ := pe
      rw [hB] at h2 h3
      have he := lexA_error _ _ _ _ _ (Nat.le_refl _) hB
      have he0 : e ≠ 0 := by rcases he.2.2 with h | h <;> rw [h] <;> decide
      have h4 : lexP ((a ++ (⟨#[10]⟩ : ByteArray)) ++ b) = ([], (a.size : Int) + 1 + (q : Int), e) := by
        rw [h3]
        show ([], ((q + (a.size + 1) : Nat) : Int), e) = _
        rw [show ((q + (a.size + 1) : Nat) : Int) = (a.size : Int) + 1 + (q : Int) by omega]
      exact (lines_bad2 a b w hG hs L q (by omega) e he0 h1 h2 h4).mono fun e w' h => h
    | ok M =>
      rw [hB] at h2 h3
      have hLl := lexA_len2 _ _ _ _ (Nat.le_refl _) hA
      have hMl := lexA_len2 _ _ _ _ (Nat.le_refl _) hB
      have hpos := lexA_pos _ _ _ _ (Nat.le_refl _) hB
      rw [hb] at hpos
      have hX : ∃ X, lexP (⟨#[120, 10, 121]⟩ : ByteArray) = (X, 0, 0) ∧ X.length = 2 := by
        have c1 : (lexP (⟨#[120, 10, 121]⟩ : ByteArray)).2.1 = 0 ∧ (lexP (⟨#[120, 10, 121]⟩ : ByteArray)).2.2 = 0 ∧ (lexP (⟨#[120, 10, 121]⟩ : ByteArray)).1.length = 2 := by decide +kernel
        refine ⟨(lexP (⟨#[120, 10, 121]⟩ : ByteArray)).1, ?_, c1.2.2⟩
        have h1 := c1.1
        have h2 := c1.2.1
        generalize lexP (⟨#[120, 10, 121]⟩ : ByteArray) = R at h1 h2 ⊢
        obtain ⟨x, y, z⟩ := R
        simp only at h1 h2
        rw [h1, h2]
      obtain ⟨X, hX, hXl⟩ := hX
      exact (lines_ok a b w hG hs L M (L ++ M.map (shiftT (a.size + 1))) h1 h2 h3 (by omega) (by omega) (by rw [List.length_append, List.length_map]) (fun z => rd_left L _ z)
        (fun z hz0 hz1 => by
          rw [rd_right L M (a.size + 1) z hz0 hz1]
          unfold shiftT
          rw [show ((a.size + 1 : Nat) : Int) = (a.size : Int) + 1 by omega, ← Int.add_assoc])
        (fun z hz0 hz1 => by have := hpos _ (rd_mem M z hz0 hz1); omega) X hX hXl).mono fun e w' h => h
end Go.Proofs.YtafjbebbmfihaaaDoor.P
