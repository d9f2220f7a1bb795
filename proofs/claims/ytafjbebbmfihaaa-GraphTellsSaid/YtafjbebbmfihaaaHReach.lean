/- graph.Reach does what graph_Reach.f says; no condition. -/
import Derived.Test.YtafjbebbmfihaaaHWalk
namespace Go.Proofs.Ytafjbebbmfihaaa.P
open Go.RowKit Go.Proofs.YtafjbebbmfihaaaW.PrintWords Go.Proofs.YtafjbebbmfihaaaW.PrintLast Go.Proofs.YtafjbebbmfihaaaW.PrintMore
set_option linter.unusedVariables false
set_option linter.unusedSimpArgs false
set_option linter.unusedSectionVars false
attribute [local go_sem] max2_int min2_int max_two min_two

def LR : List Int → World → (Nat → Prop) → Prop := fun _ _ F => ∀ b, ¬ F b
set_option maxHeartbeats 400000 in
theorem reach1_calls (i : Int) (w : World) : Calls Try.prog 26 #[.int .i64 i] w fun e w' => e = .returned (.tuple #[]) ∧ w = w' := by
  go_enter Try.func26, Try.ntmps26
  go_wp2
  go_end0
  exact ⟨rfl, rfl⟩
theorem enters26 (args : Array Value) (w : World) : (callFunc 26 args).run Try.prog w = .ok (.enter 26 args) w := by
  go_simp
theorem reach_ok (w0 : World) : LeftOK w0 26 #[] LR where
  move := fun _ _ _ h _ _ => h
  lt := fun _ _ _ h b hb => absurd hb (h b)
  enters := enters26
  call := fun out w F i _ hl hb => (reach1_calls i w).mono fun e w' ⟨he, hw⟩ => by
    subst hw
    exact ⟨he, hb, Kept.refl _ _, F, hl, fun b h => .inl h⟩

/-- The first j answers. -/
def rch (seen : List Int) (m j : Nat) : List Bool := (List.range m).map fun (i : Nat) => if i < j then decide ((i : Int) ∈ seen) else false
theorem rch_zero (seen : List Int) (m : Nat) : rch seen m 0 = List.replicate m false := by
  unfold rch
  apply List.ext_getElem
  · simp
  · intro i h1 h2
    simp
theorem rch_all (seen : List Int) (m : Nat) : rch seen m m = (List.range m).map fun (i : Nat) => decide ((i : Int) ∈ seen) := by
  unfold rch
  apply List.map_congr_left
  intro i hi
  rw [if_pos (List.mem_range.1 hi)]
theorem rch_set (seen : List Int) (m j : Nat) : (rch seen m j).set j (decide ((j : Int) ∈ seen)) = rch seen m (j + 1) := by
  unfold rch
  apply List.ext_getElem
  · simp
  · intro i h1 h2
    simp only [List.getElem_set, List.getElem_map, List.getElem_range]
    by_cases c : j = i
    · subst c
      simp
    · rw [if_neg c]
      by_cases d : i < j
      · rw [if_pos d, if_pos (by omega)]
      · rw [if_neg d, if_neg (by omega)]
theorem rch_length (seen : List Int) (m j : Nat) : (rch seen m j).length = m := by simp [rch]

set_option maxHeartbeats 1000000 in
set_option maxRecDepth 100000 in
theorem graph_Reach.calls (k : Nat) (a0 : Int) (A1 : Option Addr) (c1 : Nat) (l1 : List (List Int)) (r : List Bool) (w : World) (hr1 : Kd.C (Kd.slice 3 (Kd.int .i64)) w A1 l1.length l1) (hc1 : l1.length ≤ c1) (h : graph_Reach.f k a0 l1 = some r) :
    Calls Try.prog 11 #[.int .i64 a0, .slice A1 l1.length c1] w fun e w' => ∃ v0_ : Value, e = .returned (v0_) ∧ Kd.R Kd.bool 4 w' w.heap.size (fun _ => True) v0_ r ∧ Below w.heap.size w w' := by
  unfold graph_Reach.f at h
  by_cases hle : a0 ≤ 1000000
  case neg => rw [if_neg hle] at h; cases h
  rw [if_pos hle] at h
  obtain ⟨st, hw, h⟩ := Option.bind_eq_some_iff.1 h
  obtain ⟨m, hm⟩ : ∃ m : Nat, m = a0.toNat := ⟨_, rfl⟩
  have hmax : (if a0 < 0 then (0 : Int) else a0) = (m : Int) := by split <;> omega
  have hm6 : m ≤ 1000000 := by omega
  rw [← hm] at h
  have H := Aside0.mk h
  have HW := Aside0.mk hw
  have HC := Aside0.mk hr1
  have HC1 := Aside0.mk hc1
  have HM6 := Aside0.mk hm6
  clear h hw hr1 hc1 hm hle hm6
  go_enter Try.func11, Try.ntmps11
  go_wp2_with (first
    | (go_at_call 25; refine (walk_calls w a0 A1 c1 l1 26 #[] LR (reach_ok w) HC.out HC1.out k w (fun _ => False) st.1 st.2 (Below.refl _ _) (fun _ h => h) (fun _ h => h.elim) HW.out).mono ?_; rintro e w2 ⟨bm, F', rfl, hM, hbm, _, hB, hK, _, _⟩; have HM := Aside0.mk hM; have HB := Aside0.mk hB; clear hM hbm hB hK)
    | ((with_reducible refine gate_dst (N := 13) rfl ?_); refine Kd.R_make Kd.bool w2.heap.size 4 rfl (N := 13) rfl 24 _ _ rfl (m : Int) rfl rfl Try.underlying24 (.bool false) 1 info4 rfl (by decide) (by omega) false (ok := fun _ => True) (okp := fun _ => True) rfl (fun _ hk => hk) trivial (by omega) (by have := HM6.out; simp; omega) (Below.refl _ _) (Nat.le_refl _) ?_; intro v1 w3 ho1 hb1 hg1 _; rw [Int.toNat_natCast] at ho1; obtain ⟨A, c, hv1⟩ := Kd.R_slice ho1; rw [List.length_replicate] at hv1; subst hv1; have HO := Aside0.mk ho1; have HB3 := Aside0.mk (below_step HB.out hb1); have HM3 := Aside0.mk (HM.out.grown hg1 (by simp)); have HLT := Aside0.mk HM.out.lt; have HB2S := Aside0.mk HB.out.size; clear ho1 hb1 hg1 HB HM))
  have HX : Aside0 (Kd.R Kd.bool 4 w3 w2.heap.size (fun _ => True) (.slice A m c) (rch st.1 m 0)) := ⟨by rw [rch_zero]; exact HO.out⟩
  clear HO
  go_loopw [16] (fun v16 wr => ∃ j : Nat, v16 = .int .i64 (j : Int) ∧ Aside0 (j ≤ m) ∧ Aside0 (Kd.R Kd.bool 4 wr w2.heap.size (fun _ => True) (.slice A m c) (rch st.1 m j)) ∧ Aside0 (Below w.heap.size w wr) ∧ Aside0 (IMap wr bm (bset st.1))) (fun v16 _ => m - (intOf v16).toNat)
  case atStart => exact ⟨0, rfl, ⟨Nat.zero_le _⟩, HX, HB3, HM3⟩
  case round =>
    clear HX HB3 HM3
    obtain ⟨j, rfl, hj, HX, HB, HM⟩ := hrel
    have hj6 : (j : Int) + 1 ≤ 1000001 := by have := hj.out; have := HM6.out; omega
    by_cases hlt : j < m
    · have hlen := rch_length st.1 m j
      obtain ⟨g, cap, e1, hg1, hg2, cells, hcells⟩ := Kd.R_form HX.out (by omega)
      rw [hlen] at e1
      injection e1 with e1 _ e2
      subst e1
      subst e2
      obtain ⟨hcell, hfr⟩ := Kd.R_celln false HX.out (j : Int) (by omega) (by omega)
      rw [Int.toNat_natCast] at hcell hfr
      have HP := Aside0.mk (Kd.R_putg HX.out (j : Int) (decide ((j : Int) ∈ st.1)))
      have hjm : (j : Int) < m := by omega
      have HG := Aside0.mk hg1
      have HLT2 := Aside0.mk hlt
      clear hcells hlen hg1 hg2 hlt
      go_wp2_with (at_lookup; refine wpList_im_look rfl _ _ 45 3 4 false rfl Try.underlying45 Try.underlying3 (.bool false) zero4 bm (bset st.1) rfl HM.out (j : Int) rfl ?_; simp only [Bool.false_eq_true, if_false, imGet_bset])
      go_roundw
      case measure => have := HLT2.out; simp [intOf]; omega
      case rel =>
        have hp := HP.out
        rw [Int.toNat_natCast, rch_set] at hp
        exact ⟨j + 1, by go_num, ⟨by have := HLT2.out; omega⟩, ⟨hp.1⟩, ⟨HB.out.grown hp.2 HB.out.size (fun k e => by cases e; have := HB.out.size; have := HG.out; have := HB2S.out; omega)⟩, ⟨HM.out.grown hp.2 (fun e => by cases e; have := HLT.out; have := HG.out; omega)⟩⟩
    · have hjm : ¬ (j : Int) < m := by omega
      have e : j = m := by have := hj.out; omega
      have HE := Aside0.mk e
      clear hlt e
      go_wp2
      go_ret
      have h2 := Option.some.inj H.out
      rw [← rch_all] at h2
      have hx := HX.out
      rw [HE.out, h2] at hx
      exact ⟨_, rfl, Kd.R_lower hx HB2S.out, HB.out⟩
end Go.Proofs.Ytafjbebbmfihaaa.P
