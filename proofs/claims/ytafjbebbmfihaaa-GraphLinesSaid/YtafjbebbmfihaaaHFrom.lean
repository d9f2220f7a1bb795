/- graph.From does what graph_From.f says; no condition. -/
import Derived.Test.YtafjbebbmfihaaaHOrder
import Derived.Deep.DeepMust
namespace Go.Proofs.Ytafjbebbmfihaaa.P
open Go.RowKit Go.Proofs.YtafjbebbmfihaaaW.PrintWords Go.Proofs.YtafjbebbmfihaaaW.PrintLast Go.Proofs.YtafjbebbmfihaaaW.PrintMore
set_option linter.unusedSectionVars false
attribute [local go_sem] max2_int min2_int max_two min_two
set_option linter.unusedVariables false
set_option linter.unusedSimpArgs false

abbrev KR : Kd (List Int) := Kd.slice 3 (Kd.int .i64)
/-- What the store of a round asks: row x of l, lent. -/
theorem from_lend {W : World} {base g m c : Nat} {vw : Value} {l : List (List Int)} {x : Int} (h : Kd.S KR 27 W base (fun k => some k ≠ vw.ownBlock) (.slice (some ⟨g, 0, none⟩) m c) l) (h0 : 0 ≤ x) (h1 : x < m) (hvw : ∀ k, vw.ownBlock = some k → k < W.heap.size) :
    ∃ (oki : Nat → Prop) (A : Option Addr) (cc : Nat), W.cell? ⟨g, x.toNat, none⟩ = some (.slice A (rd_L1 l x).length cc) ∧ (∀ k, oki k → some k ≠ vw.ownBlock ∧ k ≠ g) ∧ Kd.R (Kd.int .i64) 3 W base (fun k => oki k ∨ W.heap.size ≤ k) (.slice A (rd_L1 l x).length cc) (rd_L1 l x) ∧
      Kd.H KR 27 W base (fun k => some k ≠ vw.ownBlock) (.slice (some ⟨g, 0, none⟩) m c) l x (fun k => oki k ∨ W.heap.size ≤ k) [.slice A (rd_L1 l x).length cc] := by
  obtain ⟨oki, cs, hcl, ⟨u, rfl, hR⟩, hcc, hoki, hH⟩ := Kd.S_lend h ([] : List Int) x h0 h1
  obtain ⟨A, cc, hu⟩ := Kd.R_slice hR
  have hR2 : Kd.R (Kd.int .i64) 3 W base oki u (rd_L1 l x) := hR
  have hu2 : u = .slice A (rd_L1 l x).length cc := hu
  subst hu2
  refine ⟨oki, A, cc, by have hq := hcc 0 _ rfl; rwa [show (KR).sz = 1 from rfl, Nat.mul_one, Nat.add_zero] at hq, hoki, Kd.R_mono hR2 (fun k hk => .inl hk), ?_⟩
  have hw := Kd.H_widen hH
  obtain ⟨ho, f, hR3⟩ := hw
  refine ⟨fun k hk => hk.elim (fun h2 => (hoki k h2).1) (fun h2 e => by have := hvw k e.symm; omega), f, Kd.R_mono hR3 (fun k hk => ⟨hk.1, fun h2 => hk.2 (h2.imp_right (fun h3 => ⟨hk.1, h3⟩))⟩)⟩

theorem im_ne_row {w : World} {b : Nat} {l : List (Int × Value)} {v : Value} {e : TypeId} (h : IMap w b l) (ht : ∀ k, v.ownBlock = some k → ∃ cells, w.heap[k]? = some (.cells cells e (0, 0))) : some b ≠ v.ownBlock := by
  intro hb
  obtain ⟨cells, hc⟩ := ht b hb.symm
  exact h.not_cells hc
theorem S_not_map {W : World} {base b : Nat} {ok : Nat → Prop} {v : Value} {l : List (List Int)} {s : List (Int × Value)} (h : Kd.S KR 27 W base ok v l) (hm : IMap W b s) : Kd.S KR 27 W base (fun k => ok k ∧ k ≠ b) v l :=
  Kd.S_mono (Kd.S_bound h) (fun k hk => ⟨hk.1, fun e => by
    subst e
    obtain ⟨q, _, cells, hc⟩ := hk.2.2.2
    exact hm.not_cells hc⟩)
theorem size27 : (Try.prog.info? 27).map (·.size) = some 1 := by
  have h := info27
  cases hi : Try.prog.info? 27 with
  | none => rw [hi] at h; cases h
  | some i =>
    rw [hi] at h
    simp only [Option.map_some, Option.some.injEq, Prod.mk.injEq] at h
    rw [Option.map_some, h.2.1]
theorem from_keep {w4 w6 w7 : World} {B B5 b g : Nat} {vw v5 : Value} {ws ys : List Int} {s : List (Int × Value)} {ok5 : Nat → Prop} (hV : Kd.R (Kd.int .i64) 3 w4 B (fun k => some k = vw.ownBlock) vw ws) (hM : IMap w4 b s) (hg6 : w4.grownBy w6 v5.ownBlock)
    (h5 : Kd.R (Kd.int .i64) 3 w4 B5 ok5 v5 ys) (h5w : ∀ k, v5.ownBlock = some k → some k ≠ vw.ownBlock) (hg7 : w6.grownBy w7 (some g)) (hg : some g ≠ vw.ownBlock) (hgb : b ≠ g) :
    Kd.R (Kd.int .i64) 3 w7 B (fun k => some k = vw.ownBlock) vw ws ∧ IMap w7 b s := by
  refine ⟨Kd.R_grown (Kd.R_grown hV hg6 (fun k hk e => h5w k e.symm hk)) hg7 (fun k hk e => hg (e.symm.trans hk)), (hM.grown hg6 (im_ne_row hM (Kd.R_typed h5))).grown hg7 (fun e => hgb (Option.some.inj e))⟩
theorem row_len {i : Int} : ∀ {ws seen : List Int} {l r : List (List Int)}, graph_From.row i ws seen l = some r → r.length = l.length
  | [], _, l, r, h => by simp only [graph_From.row, Option.some.injEq] at h; rw [h]
  | x :: ws, seen, l, r, h => by
    unfold graph_From.row at h
    split at h
    · exact row_len h
    · split at h
      · have := row_len h
        rw [this, List.length_set]
      · cases h

set_option maxHeartbeats 4000000 in
set_option maxRecDepth 100000 in
theorem graph_From.calls (k : Nat) (a0 : Int) (A1 : Option Addr) (c1 : Nat) (l1 : List (List Int)) (r : List (List Int)) (w : World) (hr1 : Kd.C (Kd.slice 3 (Kd.int .i64)) w A1 l1.length l1) (hc1 : l1.length ≤ c1) (h : graph_From.f k a0 l1 = some r) :
    Calls Try.prog 12 #[.int .i64 a0, .slice A1 l1.length c1] w fun e w' => ∃ v0_ : Value, e = .returned (v0_) ∧ Kd.S (Kd.slice 3 (Kd.int .i64)) 27 w' w.heap.size (fun _ => True) v0_ r ∧ Below w.heap.size w w' := by
  unfold graph_From.f at h
  by_cases hle : a0 ≤ 1000000
  case neg => rw [if_neg hle] at h; cases h
  rw [if_pos hle] at h
  have hmm := @run_makeMap Try.prog
  obtain ⟨m, hm⟩ : ∃ m : Nat, m = a0.toNat := ⟨_, rfl⟩
  have hmax : (if a0 < 0 then (0 : Int) else a0) = (m : Int) := by split <;> omega
  have hm6 : m ≤ 1000000 := by omega
  rw [← hm] at h
  have H := Aside0.mk h
  have HC := Aside0.mk hr1
  have HC1 := Aside0.mk hc1
  have HM6 := Aside0.mk hm6
  have HLE := Aside0.mk hle
  have HM := Aside0.mk hm
  clear h hr1 hc1 hm hle hm6
  go_enter Try.func12, Try.ntmps12
  go_wp2_with ((with_reducible refine gate_dst (N := 12) rfl ?_); refine Kd.S_make KR w.heap.size 27 rfl (N := 12) rfl 22 _ _ rfl (m : Int) rfl rfl Try.underlying22 (.slice none 0 0) 24 info27 rfl (by decide) (by omega) ([] : List Int) (ok := fun _ => True) (okp := fun _ => True) ⟨_, rfl, Kd.R_nil _ _ _ _ _⟩ (fun _ hk => hk) trivial (by omega) (by have := HM6.out; simp; omega) (Below.refl _ _) (Nat.le_refl _) ?_; intro v1 w3 ho1 hb1 hg1 _; rw [Int.toNat_natCast] at ho1; obtain ⟨A, c, hv1⟩ := Kd.S_slice ho1; rw [List.length_replicate] at hv1; subst hv1; have HO := Aside0.mk ho1; have HB3 := Aside0.mk hb1; clear ho1 hb1 hg1)
  go_loopg [14] k (fun kq v14 wr => ∃ (i : Nat) (li : List (List Int)), v14 = .int .i64 (i : Int) ∧ Aside0 (i ≤ m) ∧ Aside0 (kq ≤ k) ∧ Aside0 (graph_From.lo kq a0 l1 (i : Int) li = some r) ∧ Aside0 (Kd.S KR 27 wr w.heap.size (fun _ => True) (.slice A m c) li) ∧ Aside0 (Below w.heap.size w wr))
  case atStart => exact ⟨0, _, rfl, ⟨Nat.zero_le _⟩, ⟨Nat.le_refl _⟩, H, HO, HB3⟩
  case round =>
    clear HO HB3 H
    obtain ⟨i, li, rfl, hi, hkq, H, HS, HB⟩ := hrel
    obtain ⟨wo, rfl⟩ : ∃ wo : World, wo = wr := ⟨_, rfl⟩
    cases gk with
    | zero => exact absurd H.out (by simp [graph_From.lo])
    | succ k1 =>
    have h := H.out
    simp only [graph_From.lo] at h
    have hi6 : (i : Int) + 1 ≤ 1000001 := by have := hi.out; have := HM6.out; omega
    by_cases hlt : (i : Int) < a0
    · rw [if_pos hlt] at h
      obtain ⟨ws, hws, h⟩ := Option.bind_eq_some_iff.1 h
      obtain ⟨l2, hrow, h⟩ := Option.bind_eq_some_iff.1 h
      by_cases hl6 : ws.length < 1000000
      case neg => rw [if_neg hl6] at hrow; cases hrow
      rw [if_pos hl6] at hrow
      have HWS := Aside0.mk hws
      have HROW := Aside0.mk hrow
      have H2 := Aside0.mk h
      have HL6 := Aside0.mk hl6
      have HIM := Aside0.mk (show i < m by have := HM.out; omega)
      clear h H hws hrow hl6
      go_wp2_with (go_at_call 27; refine (graph_ways.calls k1 a0 A1 c1 l1 (i : Int) ws _ (Kd.C_below HC.out (below_alloc HB.out _)) HC1.out HWS.out).mono ?_; rintro e w2 ⟨vw, rfl, hv0, hb20⟩; obtain ⟨Aw, cw, hvw⟩ := Kd.R_slice hv0; subst hvw; have HV := Aside0.mk (R_self hv0); have HS2 := Aside0.mk (Kd.S_elder' (Kd.S_alloc HS.out (.map #[] 0)) (Kd.R_base hv0) hb20); have HB2 := Aside0.mk (below_step (below_alloc HB.out (.map #[] 0)) hb20); have HM2 := Aside0.mk ((IMap.made wo).move (hb20.block _ (by simp))); clear hv0 hb20)
      have HSx : Aside0 (Kd.S KR 27 w2 w.heap.size (fun k => some k ≠ (Value.slice Aw ws.length cw).ownBlock) (.slice A m c) li) := ⟨Kd.S_mono HS2.out (fun _ hk => hk.2)⟩
      have HBM := Aside0.mk HM2.out.lt
      have HBOLD := Aside0.mk HB.out.size
      have hwlen : (ws.length : Int) ≤ 1000000 := by have := HL6.out; omega
      clear HS2 HS HB
      go_loopw [23] (fun v23 wq => ∃ (j : Nat) (s : List Int) (lq : List (List Int)), v23 = .int .i64 (j : Int) ∧ Aside0 (j ≤ ws.length) ∧ Aside0 (graph_From.row (i : Int) (ws.drop j) s lq = some l2) ∧ Aside0 (Kd.S KR 27 wq w.heap.size (fun k => some k ≠ (Value.slice Aw ws.length cw).ownBlock) (.slice A m c) lq) ∧ Aside0 (Kd.R (Kd.int .i64) 3 wq (wo.alloc (Obj.map #[] 0)).heap.size (fun k => some k = (Value.slice Aw ws.length cw).ownBlock) (.slice Aw ws.length cw) ws) ∧ Aside0 (IMap wq wo.heap.size (bset s)) ∧ Aside0 (Below w.heap.size w wq)) (fun v23 _ => ws.length - (intOf v23).toNat)
      case atStart => exact ⟨0, [], li, rfl, ⟨Nat.zero_le _⟩, HROW, HSx, HV, HM2, HB2⟩
      case round =>
        clear HSx HV HM2 HB2 HROW
        obtain ⟨j, s, lq, rfl, hj, HROW, HSx, HV, HMq, HBq⟩ := hrel
        have hj6 : (j : Int) + 1 ≤ 1000001 := by have := hj.out; omega
        by_cases hjt : j < ws.length
        · have hd : ws.drop j = ws[j] :: ws.drop (j + 1) := List.drop_eq_getElem_cons hjt
          obtain ⟨x, hx⟩ : ∃ x, x = ws[j] := ⟨_, rfl⟩
          have hr := HROW.out
          rw [hd] at hr
          simp only [graph_From.row] at hr
          rw [← hx] at hr
          obtain ⟨ad, e1, hcell⟩ := Kd.at_int (Kd.R_reads' HV.out).2.2 (j : Int) (by omega) (by omega)
          cases e1
          rw [Int.toNat_natCast] at hcell
          have e2 : rd ws (j : Int) = x := by rw [hx]; simp [rd, hjt]
          rw [e2] at hcell
          have hjl : (j : Int) < ws.length := by omega
          have HJT := Aside0.mk hjt
          clear hx hd HROW e2 hjt
          by_cases hin : x ∈ s
          · rw [if_pos hin] at hr
            have HROW := Aside0.mk hr
            have hdec : decide (x ∈ s) = true := decide_eq_true hin
            clear hr hin
            go_wp2_with (at_lookup; refine wpList_im_look rfl _ _ 45 3 4 false rfl Try.underlying45 Try.underlying3 (.bool false) zero4 wo.heap.size (bset s) rfl HMq.out x rfl ?_; simp only [Bool.false_eq_true, if_false, imGet_bset, hdec])
            go_roundw
            case measure => have := HJT.out; simp [intOf]; omega
            case rel => exact ⟨j + 1, s, lq, by go_num, ⟨by have := HJT.out; omega⟩, HROW, HSx, HV, HMq, HBq⟩
          · rw [if_neg hin] at hr
            by_cases hc : 0 ≤ x ∧ x < lq.length ∧ (rd_L1 lq x).length < 1000000
            case neg => rw [if_neg hc] at hr; cases hr
            rw [if_pos hc] at hr
            obtain ⟨hx0, hx1, hx2⟩ := hc
            have HROW := Aside0.mk hr
            have HIN := Aside0.mk hin
            have hdec : decide (x ∈ s) = false := decide_eq_false hin
            have hml := (Kd.S_reads' HSx.out).1
            obtain ⟨g, cap, e1, hg1, hg2, cells, hcells⟩ := Kd.S_form HSx.out (by omega)
            rw [← hml] at e1
            injection e1 with e1 _ e3
            subst e1
            subst e3
            have hxm : x < (m : Int) := by omega
            have HX2 := Aside0.mk hx2
            have HGC := Aside0.mk hcells
            clear hr hin hx1 hml hg1 hg2 hx2 hcells
            go_wp2_with (first
              | (at_lookup; refine wpList_im_look rfl _ _ 45 3 4 false rfl Try.underlying45 Try.underlying3 (.bool false) zero4 wo.heap.size (bset s) rfl HMq.out x rfl ?_; simp only [Bool.false_eq_true, if_false, imGet_bset, hdec])
              | (at_mapUpdate; go_must (refine wpList_im_put rfl _ _ _ 45 3 4 rfl Try.underlying45 Try.underlying3 wo.heap.size (bset s) rfl HMq.out x rfl (.bool true) rfl ?_; intro w4 hM4 hg4; rw [imPut_bset s x HIN.out] at hM4; have hne4 := im_ne_row HMq.out (Kd.R_typed HV.out); have HV4 := Aside0.mk (Kd.R_grown HV.out hg4 (fun k hk e => hne4 (e.symm.trans hk))); have HM4 := Aside0.mk hM4; have HB4 := Aside0.mk (HBq.out.grown hg4 HBq.out.size (fun k e => by cases e; exact HBOLD.out)); have HS4 := Aside0.mk (Kd.S_grown (S_not_map HSx.out HMq.out) hg4 (fun k hk e => hk.2 (Option.some.inj e))); have hld := from_lend (Kd.S_mono HS4.out (fun _ hk => hk.1)) hx0 hxm (Kd.R_lt HV4.out); obtain ⟨oki, A5, c5, hcell5, hoki, hR5, hH5⟩ := hld; have HOKI := Aside0.mk hoki; have HR5 := Aside0.mk hR5; have HH5 := Aside0.mk hH5; clear hM4 hg4 hne4 hoki hR5 hH5))
              | ((with_reducible refine gate_builtin (b := .append) (xs := #[.tmp 38, .tmp 40]) rfl ?_); at_builtin; go_must (refine Kd.R_append (Kd.int .i64) (w0 := w) w.heap.size rfl (.tmp 38) (.tmp 40) 27 3 (.int .i64 0) 8 rfl Try.underlying27 info3 rfl (by decide) (by omega) (.slice A5 (rd_L1 lq x).length c5) (rd_L1 lq x) (i : Int) [.int .i64 (i : Int)] (fun k => oki k ∨ w4.heap.size ≤ k) (fun _ => False) rfl rfl rfl (fun _ hk => hk.elim) (fun k hk => .inr hk) HR5.out HB4.out HB4.out.size (by have := HX2.out; omega) ?_; intro v6 w6 hr6 hb6 hg6 hat6; have HR6 := Aside0.mk hr6; have HB6 := Aside0.mk hb6; have HG6 := Aside0.mk hg6; clear hr6 hb6 hg6 hat6))
              | ((with_reducible refine gate_store (t := 27) (p := 42) rfl ?_); go_must (refine Kd.H_store KR (w0 := w) w.heap.size rfl rfl 27 (.tmp 42) (.tmp 41) rfl 27 x 0 lq (rd_L1 lq x ++ [(i : Int)]) v6 [v6] [.slice A5 (rd_L1 lq x).length c5] (fun k => some k ≠ (Value.slice (some ad) ws.length cw).ownBlock) (fun k => oki k ∨ w4.heap.size ≤ k) (fun k => oki k ∨ w4.heap.size ≤ k) rfl (by show _ = x.toNat * 1 + 0; omega) rfl (Kd.R_val HR6.out).1 (by rw [size27]; rfl) (fun q hq => by rw [List.mem_singleton.1 hq]; exact (Kd.R_val HR6.out).2) (Kd.H_grown HH5.out HG6.out (fun k hk => (HR5.out.1 k hk))) hx0 hxm (show 0 + [v6].length ≤ 1 from Nat.le_refl _) ⟨v6, rfl, HR6.out⟩ (fun _ hk => hk) HB6.out ?_; intro w7 hS7 hb7 hg7; have HS7 := Aside0.mk hS7; have HB7 := Aside0.mk hb7; have HG7 := Aside0.mk hg7; clear hS7 hb7 hg7))
              | fail)
            go_roundw
            case measure => have := HJT.out; simp [intOf]; omega
            case rel =>
              have hk := from_keep HV4.out HM4.out HG6.out HR5.out (fun k hk => (HR5.out.1 k hk).elim (fun h2 => (HOKI.out k h2).1) (fun h2 => by have := Kd.R_lt HR5.out k hk; omega)) HG7.out ((Kd.S_R HS4.out).1 g rfl).1 (fun e => (((Kd.S_R HS4.out).1 g rfl).2 e.symm))
              exact ⟨j + 1, s ++ [x], _, by go_num, ⟨by have := HJT.out; omega⟩, HROW, HS7, ⟨hk.1⟩, ⟨hk.2⟩, HB7⟩
        · have hd : ws.drop j = [] := List.drop_eq_nil_of_le (by omega)
          have hr := HROW.out
          rw [hd] at hr
          simp only [graph_From.row, Option.some.injEq] at hr
          have HR := Aside0.mk hr
          have hnl : ¬ (j : Int) < ws.length := by omega
          clear hd hr HROW hjt
          go_wp2
          go_roundg k1
          case measure => have := hkq.out; omega
          case rel => exact ⟨i + 1, l2, by go_num, ⟨by have := HIM.out; omega⟩, ⟨by have := hkq.out; omega⟩, ⟨by have := H2.out; rwa [show ((i + 1 : Nat) : Int) = (i : Int) + 1 from by omega]⟩, ⟨by rw [← HR.out]; exact Kd.S_mono HSx.out (fun _ _ => trivial)⟩, HBq⟩
    · rw [if_neg hlt] at h
      have H2 := Aside0.mk h
      clear h H
      go_wp2
      go_ret
      have h2 := Option.some.inj H2.out
      have hs := HS.out
      rw [h2] at hs
      exact ⟨_, rfl, hs, HB.out⟩
end Go.Proofs.Ytafjbebbmfihaaa.P
