/- graph.Doms does what graph_Doms.f says; no condition. -/
import Derived.Test.YtafjbebbmfihaaaHDomsA
namespace Go.Proofs.Ytafjbebbmfihaaa.P
open Go.RowKit Go.Proofs.YtafjbebbmfihaaaW.PrintWords Go.Proofs.YtafjbebbmfihaaaW.PrintLast Go.Proofs.YtafjbebbmfihaaaW.PrintMore
set_option linter.unusedSectionVars false
attribute [local go_sem] max2_int min2_int max_two min_two
set_option linter.unusedVariables false
set_option linter.unusedSimpArgs false

set_option maxHeartbeats 8000000 in
set_option maxRecDepth 100000 in
theorem graph_Doms.calls (k : Nat) (a0 : Int) (A1 : Option Addr) (c1 : Nat) (l1 : List (List Int)) (r : List Int) (w : World) (hr1 : Kd.C (Kd.slice 3 (Kd.int .i64)) w A1 l1.length l1) (hc1 : l1.length ≤ c1) (h : graph_Doms.f k a0 l1 = some r) :
    Calls Try.prog 18 #[.int .i64 a0, .slice A1 l1.length c1] w fun e w' => ∃ v0_ : Value, e = .returned (v0_) ∧ Kd.R (Kd.int .i64) 3 w' w.heap.size (fun _ => True) v0_ r ∧ Below w.heap.size w w' := by
  unfold graph_Doms.f at h
  by_cases hle : a0 ≤ 1000000
  case neg => rw [if_neg hle] at h; cases h
  rw [if_pos hle] at h
  obtain ⟨order, hord, h⟩ := Option.bind_eq_some_iff.1 h
  obtain ⟨frm, hfrm, h⟩ := Option.bind_eq_some_iff.1 h
  by_cases hol : order.length < 1000000
  case neg => rw [if_neg hol] at h; cases h
  rw [if_pos hol] at h
  obtain ⟨plc, hplc, h⟩ := Option.bind_eq_some_iff.1 h
  have hmf : ∀ (fn : Fn) (first cap : Array Value) (w : World), (Instr.makeFunc fn first cap).run Try.prog w = .ok (.func fn first cap) w := fun _ _ _ _ => rfl
  obtain ⟨m, hm⟩ : ∃ m : Nat, m = a0.toNat := ⟨_, rfl⟩
  have hmax : (if a0 < 0 then (0 : Int) else a0) = (m : Int) := by split <;> omega
  have hm6 : m ≤ 1000000 := by omega
  rw [← hm] at h hplc
  have H := Aside0.mk h
  have HPLC := Aside0.mk hplc
  have HORD := Aside0.mk hord
  have HFRM := Aside0.mk hfrm
  have HOL := Aside0.mk hol
  have HC := Aside0.mk hr1
  have HC1 := Aside0.mk hc1
  have HM6 := Aside0.mk hm6
  clear h hr1 hc1 hm hle hm6 hplc hord hfrm hol
  go_enter Try.func18, Try.ntmps18
  go_wp2_with (first
    | (go_at_call 19; go_must (refine (graph_Order.calls k a0 A1 c1 l1 order w HC.out HC1.out HORD.out).mono ?_; rintro e w1 ⟨vo, rfl, ho, hb1⟩; obtain ⟨Ao, co, hvo⟩ := Kd.R_slice ho; subst hvo; have HO := Aside0.mk ho; have HB1 := Aside0.mk hb1; clear ho hb1))
    | (go_at_call 12; go_must (refine (graph_From.calls k a0 A1 c1 l1 frm w1 (Kd.C_below HC.out HB1.out) HC1.out HFRM.out).mono ?_; rintro e w2 ⟨vf, rfl, hf, hb2⟩; obtain ⟨Af, cf, hvf⟩ := Kd.S_slice hf; subst hvf; have HF := Aside0.mk (Kd.S_lower hf HB1.out.size); have HO2 := Aside0.mk (Kd.R_below HO.out hb2); have HB2 := Aside0.mk (below_step HB1.out hb2); clear hf hb2))
    | ((with_reducible refine gate_dst (N := 27) rfl ?_); go_must (refine Kd.R_make (Kd.int .i64) w2.heap.size 3 rfl (N := 27) rfl 27 _ _ rfl (m : Int) rfl rfl Try.underlying27 (.int .i64 0) 8 info3 rfl (by decide) (by omega) 0 (ok := fun _ => True) (okp := fun _ => True) rfl (fun _ hk => hk) trivial (by omega) (by have := HM6.out; simp; omega) (Below.refl _ _) (Nat.le_refl _) ?_; intro v3 w3 ho3 hb3 hg3 hat3; rw [Int.toNat_natCast] at ho3; obtain ⟨A3, cp, hv3⟩ := Kd.R_slice ho3; rw [List.length_replicate] at hv3; subst hv3; obtain ⟨pb, hpb, hpb2⟩ := hat3; have HP3 := Aside0.mk ho3; have HB3 := Aside0.mk hb3; have HPB := Aside0.mk hpb; have HPB2 := Aside0.mk hpb2; clear ho3 hb3 hg3 hpb hpb2))
    | ((with_reducible refine gate_dst (N := 30) rfl ?_); go_must (refine Kd.R_make (Kd.int .i64) (w3.heap.size + 1) 3 rfl (N := 30) rfl 27 _ _ rfl (m : Int) rfl rfl Try.underlying27 (.int .i64 0) 8 info3 rfl (by decide) (by omega) 0 (ok := fun _ => True) (okp := fun _ => True) rfl (fun _ hk => hk) trivial (by omega) (by have := HM6.out; simp; omega) (Below.refl _ _) (by simp) ?_; intro v5 w5 ho5 hb5 hg5 hat5; rw [Int.toNat_natCast] at ho5; obtain ⟨A5, cn, hv5⟩ := Kd.R_slice ho5; rw [List.length_replicate] at hv5; subst hv5; obtain ⟨nb, hnb, hnb2⟩ := hat5; have HN5 := Aside0.mk ho5; have HB5 := Aside0.mk hb5; have HNB := Aside0.mk hnb; have HNB2 := Aside0.mk hnb2; clear ho5 hb5 hg5 hnb hnb2))
    | fail)
  obtain ⟨e3, e5, hstart⟩ := DSt.start HO2.out HF.out HB2.out HP3.out HB3.out HPB.out HPB2.out HN5.out HB5.out HNB.out HNB2.out
  subst e3
  subst e5
  have HX0 := Aside0.mk hstart
  clear hstart HO2 HF HB2 HP3 HB3 HPB HPB2 HN5 HB5 HNB HNB2 HO HB1
  go_loopw [33] (fun v33 wr => ∃ j : Nat, v33 = .int .i64 (j : Int) ∧ Aside0 (j ≤ m) ∧ Aside0 (DSt w wr w2.heap.size pb w3.heap.size nb w5.heap.size m cp cn (.slice Ao order.length co) (.slice Af frm.length cf) order frm (mone m j) (mone m j))) (fun v33 _ => m - (intOf v33).toNat)
  case atStart => exact ⟨0, rfl, ⟨Nat.zero_le _⟩, HX0⟩
  case round =>
    clear HX0
    obtain ⟨j, rfl, HJ, HX⟩ := hrel
    have hcp := (cell_of_blk HX.out.bcp).1
    have hcn := (cell_of_blk HX.out.bcn).1
    have hj6 : (j : Int) + 1 ≤ 1000001 := by have := HJ.out; have := HM6.out; omega
    by_cases hlt : j < m
    · have hjm : (j : Int) < m := by omega
      have hj0 : (0 : Int) ≤ (j : Int) := by omega
      obtain ⟨hcx, hfx⟩ := Kd.R_celln (0 : Int) HX.out.hn (j : Int) hj0 hjm
      obtain ⟨hcy, hfy⟩ := Kd.R_celln (0 : Int) HX.out.hp (j : Int) hj0 hjm
      rw [Int.toNat_natCast] at hcx hfx hcy hfy
      have hq1 : w3.heap.size ≠ nb := by have := HX.out.num; omega
      have hq2 : w5.heap.size ≠ nb := by have := HX.out.num; omega
      have hq3 : pb ≠ nb := by have := HX.out.num; omega
      have hcy2 : ∀ u : Value, (wr.setCell ⟨nb, j, none⟩ u).cell? ⟨pb, j, none⟩ = some (.int .i64 (rdOf 0 (mone m j) (j : Int))) := fun u => cell_set_ne hcy (.inl hq3)
      have HLT := Aside0.mk hlt
      clear hlt
      go_wp2_with fail
      refine start_ (n := 8) (S := fun w' => w'.cell? ⟨w3.heap.size, 0, none⟩ = some (.slice (some ⟨pb, 0, none⟩) m cp) ∧ w'.cell? ⟨w5.heap.size, 0, none⟩ = some (.slice (some ⟨nb, 0, none⟩) m cn)) (ds := [7]) #[false, false, false, false, false, false, false, false] (by kernel_rfl) rfl rfl ⟨hcp, hcn⟩ (fun hHeld => ?_)
      refine pure_ (i := 1) (N := some 37) (v := ?_) (a' := ?_) #[false, true, false, false, false, false, false, false] rfl rfl (by kernel_rfl) (fun _ _ _ h => h) (Or.inl ⟨by rfl, ?_⟩) ?_ ?_
      rotate_left
      · intro w'
        go_simp
        with_reducible rfl
      rotate_left
      · simp only [Act.put, List.setIfInBounds_toArray, List.set_cons_zero, List.set_cons_succ, i64_w, i32_w]
        rfl
      refine pure_ (i := 3) (N := some 39) (v := ?_) (a' := ?_) #[false, true, false, true, false, false, false, false] rfl rfl (by kernel_rfl) (fun _ _ _ h => h) (Or.inl ⟨by rfl, ?_⟩) ?_ ?_
      rotate_left
      · intro w'
        go_simp
        with_reducible rfl
      rotate_left
      · simp only [Act.put, List.setIfInBounds_toArray, List.set_cons_zero, List.set_cons_succ, i64_w, i32_w]
        rfl
      refine take_ (i := 0) (N := some 36) (v := ?_) (a' := ?_) #[true, true, false, true, false, false, false, false] rfl rfl (by kernel_rfl) (fun _ _ _ h => h) (Or.inl ⟨by rfl, ?_⟩) hHeld ?_ ?_
      rotate_left
      · rintro w' ⟨s0, s1⟩
        go_simp
        with_reducible rfl
      rotate_left
      · simp only [Act.put, List.setIfInBounds_toArray, List.set_cons_zero, List.set_cons_succ, i64_w, i32_w]
        rfl
      refine pure_ (i := 4) (N := some 40) (v := ?_) (a' := ?_) #[true, true, false, true, true, false, false, false] rfl rfl (by kernel_rfl) (fun _ _ _ h => h) (Or.inl ⟨by rfl, ?_⟩) ?_ ?_
      rotate_left
      · intro w'
        go_simp
        with_reducible rfl
      rotate_left
      · simp only [Act.put, List.setIfInBounds_toArray, List.set_cons_zero, List.set_cons_succ, i64_w, i32_w]
        rfl
      refine take_ (i := 2) (N := some 38) (v := ?_) (a' := ?_) #[true, true, true, true, true, false, false, false] rfl rfl (by kernel_rfl) (fun _ _ _ h => h) (Or.inl ⟨by rfl, ?_⟩) hHeld ?_ ?_
      rotate_left
      · rintro w' ⟨s0, s1⟩
        go_simp
        with_reducible rfl
      rotate_left
      · simp only [Act.put, List.setIfInBounds_toArray, List.set_cons_zero, List.set_cons_succ, i64_w, i32_w]
        rfl
      refine one_ (i := 5) (N := none) #[true, true, true, true, true, true, false, false] rfl rfl (by kernel_rfl) (by decide) (fun K hK => ?_)
      refine skip_ (w1 := ?_) (by rfl) rfl ?_ ?_
      rotate_left
      · go_simp
        rfl
      refine hK.out _ _ ⟨cell_set_ne hHeld.1 (.inl hq1), cell_set_ne hHeld.2 (.inl hq2)⟩ (fun hHeld => ?_)
      clear hK K
      refine pure_ (i := 6) (N := some 41) (v := ?_) (a' := ?_) #[true, true, true, true, true, true, true, false] rfl rfl (by kernel_rfl) (fun _ _ _ h => h) (Or.inl ⟨by rfl, ?_⟩) ?_ ?_
      rotate_left
      · intro w'
        go_simp
        with_reducible rfl
      rotate_left
      · simp only [Act.put, List.setIfInBounds_toArray, List.set_cons_zero, List.set_cons_succ, i64_w, i32_w]
        rfl
      refine last_ (i := 7) (N := none) #[true, true, true, true, true, true, true, true] rfl rfl (by kernel_rfl) (by decide) (fun K hK => ?_)
      refine skip_ (w1 := ?_) (by rfl) rfl ?_ ?_
      rotate_left
      · go_simp
        rfl
      refine hK.out _ _ ?_
      clear hK K
      refine done_ (by kernel_rfl) ?_
      go_wp2
      go_roundw
      case measure => have := HLT.out; simp [intOf]; omega
      case rel =>
        have hx := (HX.out.setNear (j : Int) (-1)).setPlace (j : Int) (-1)
        rw [Int.toNat_natCast, mone_set] at hx
        exact ⟨j + 1, by go_num, ⟨by have := HLT.out; omega⟩, ⟨hx.drewN 1⟩⟩
    · have hjm : ¬ (j : Int) < m := by omega
      have e : j = m := by have := HJ.out; omega
      subst e
      clear hlt
      have HX1 : Aside0 (DSt w wr w2.heap.size pb w3.heap.size nb w5.heap.size j cp cn (.slice Ao order.length co) (.slice Af frm.length cf) order frm (List.replicate j (-1)) (List.replicate j (-1))) := ⟨by have := HX.out; rwa [mone_all] at this⟩
      clear HX HJ hcp hcn hjm hj6
      go_wp2
      go_loopw [45] (fun v45 wr => ∃ (i : Nat) (place : List Int), v45 = .int .i64 (i : Int) ∧ Aside0 (i ≤ order.length) ∧ Aside0 (graph_Doms.places (order.drop i) (i : Int) place = some plc) ∧ Aside0 (DSt w wr w2.heap.size pb w3.heap.size nb w5.heap.size j cp cn (.slice Ao order.length co) (.slice Af frm.length cf) order frm place (List.replicate j (-1)))) (fun v45 _ => order.length - (intOf v45).toNat)
      case atStart => exact ⟨0, _, rfl, ⟨Nat.zero_le _⟩, HPLC, ⟨HX1.out.drewN 0⟩⟩
      case round =>
        clear HX1 HPLC
        obtain ⟨i, place, rfl, HI, HPL, HX⟩ := hrel
        have hcp := (cell_of_blk HX.out.bcp).1
        have hi6 : (i : Int) + 1 ≤ 1000001 := by have := HI.out; have := HOL.out; omega
        by_cases hlt : i < order.length
        · have hil : (i : Int) < order.length := by omega
          have hi0 : (0 : Int) ≤ (i : Int) := by omega
          obtain ⟨ao, e1, hco⟩ := Kd.at_int (Kd.R_reads' HX.out.ho).2.2 (i : Int) hi0 hil
          subst e1
          rw [Int.toNat_natCast] at hco
          have hpl := HPL.out
          rw [List.drop_eq_getElem_cons hlt, graph_Doms.places] at hpl
          have hrd : rd order (i : Int) = order[i] := by simp [rd, List.getD, hlt]
          rw [← hrd] at hpl
          obtain ⟨b, hb⟩ : ∃ b, b = rd order (i : Int) := ⟨_, rfl⟩
          rw [← hb] at hco hpl
          by_cases hbr : 0 ≤ b ∧ b < place.length
          case neg => rw [if_neg hbr] at hpl; cases hpl
          rw [if_pos hbr] at hpl
          obtain ⟨hb0, hb1⟩ := hbr
          have hpl6 := HX.out.plen
          have hbm : b < (j : Int) := by omega
          obtain ⟨hcy, hfy⟩ := Kd.R_celln (0 : Int) HX.out.hp b hb0 hbm
          have HPL2 := Aside0.mk hpl
          have HLT := Aside0.mk hlt
          clear hlt hpl HPL hrd hb hb1 hpl6
          go_wp2
          go_roundw
          case measure => have := HLT.out; simp [intOf]; omega
          case rel => exact ⟨i + 1, _, by go_num, ⟨by have := HLT.out; omega⟩, ⟨by have := HPL2.out; rwa [show ((i + 1 : Nat) : Int) = (i : Int) + 1 from by omega]⟩, ⟨HX.out.setPlace b (i : Int)⟩⟩
        · have hil : ¬ (i : Int) < order.length := by omega
          have hd : order.drop i = [] := List.drop_eq_nil_of_le (by omega)
          have hpl := HPL.out
          rw [hd, graph_Doms.places, Option.some.injEq] at hpl
          subst hpl
          clear hd hlt HPL hcp hi6
          have HX2 := Aside0.mk (HX.out)
          clear HX
          obtain ⟨i3, hi3, e3⟩ := Option.map_eq_some_iff.1 info3
          have hs3 : i3.size = 1 := by
            simp only [Prod.mk.injEq] at e3
            exact e3.2.1
          obtain ⟨dm, hdm⟩ : ∃ dm : Nat, dm = min 1 order.length := ⟨_, rfl⟩
          have hmin : (if (order.length : Int) < 1 then (order.length : Int) else 1) = (dm : Int) := by split <;> omega
          obtain ⟨Ad, hcut, hAd⟩ := print_cut 27 3 .i64 Try.underlying27 hi3 hs3 Ao order.length co dm (by omega)
          obtain ⟨bs, hbs⟩ : ∃ bs, bs = order.drop 1 := ⟨_, rfl⟩
          have hdd : order.drop dm = bs := by
            rw [hbs, hdm]
            cases order with
            | nil => rfl
            | cons x xs => simp
          have hbl : order.length - dm = bs.length := by rw [← hdd, List.length_drop]
          rw [hbl] at hcut
          have HAD : Aside0 (∀ (w : World), Kd.C (Kd.int .i64) w Ao order.length order → ReadsInt w .i64 Ad bs.length bs) := ⟨fun w h => by
            have := hAd w .i64 order (Kd.R_reads' HX2.out.ho).2.1 (Kd.reads_of_C (d := (0 : Int)) h)
            rwa [hdd, hbl] at this⟩
          have HBL : Aside0 (bs.length < 1000000) := ⟨by have := HOL.out; omega⟩
          have H3 : Aside0 (graph_Doms.lo k place frm bs (List.replicate j (-1)) = some r) := ⟨by rw [hbs]; exact H.out⟩
          clear hAd hs3 e3 hi3 hdm hbs hdd hbl H
          go_wp2
          go_loopg [13] k (fun kq v13 wr => ∃ (ag : Bool) (near : List Int), v13 = .bool ag ∧ Aside0 (if ag = true then graph_Doms.lo kq place frm bs near = some r else near = r) ∧ Aside0 (DSt w wr w2.heap.size pb w3.heap.size nb w5.heap.size j cp cn (.slice Ao order.length co) (.slice Af frm.length cf) order frm place near))
          case atStart => exact ⟨true, _, rfl, ⟨by rw [if_pos rfl]; exact H3.out⟩, ⟨HX2.out.drewN 0⟩⟩
          case round =>
            clear H3 HX2
            obtain ⟨ag, near, rfl, HG, HX⟩ := hrel
            have hcn := (cell_of_blk HX.out.bcn).1
            cases ag with
            | false =>
              have hr := HG.out
              rw [if_neg (by decide)] at hr
              have HR := Aside0.mk hr
              clear hr HG
              go_wp2
              go_ret
              refine ⟨_, rfl, ?_, HX.out.hb⟩
              rw [← HR.out]
              exact Kd.R_mono HX.out.hn (fun _ _ => trivial)
            | true =>
              have hg := HG.out
              rw [if_pos rfl] at hg
              cases gk with
              | zero => exact absurd hg (by simp [graph_Doms.lo])
              | succ k1 =>
              rw [graph_Doms.lo] at hg
              obtain ⟨⟨near2, ag2⟩, hpass, hg⟩ := Option.bind_eq_some_iff.1 hg
              have HPASS := Aside0.mk hpass
              have HG2 : Aside0 (if ag2 = true then graph_Doms.lo k1 place frm bs near2 = some r else near2 = r) := ⟨by
                cases ag2 with
                | false => simpa using hg
                | true => simpa using hg⟩
              clear hpass hg HG
              go_wp2
              go_loopw [63, 13] (fun v63 v13 wr => ∃ (i : Nat) (nearj : List Int) (agj : Bool), v63 = .int .i64 (i : Int) ∧ v13 = .bool agj ∧ Aside0 (i ≤ bs.length) ∧ Aside0 (graph_Doms.pass k1 place frm (bs.drop i) nearj agj = some (near2, ag2)) ∧ Aside0 (DSt w wr w2.heap.size pb w3.heap.size nb w5.heap.size j cp cn (.slice Ao order.length co) (.slice Af frm.length cf) order frm place nearj)) (fun v63 _ _ => bs.length - (intOf v63).toNat)
              case atStart => exact ⟨0, _, false, rfl, rfl, ⟨Nat.zero_le _⟩, HPASS, ⟨HX.out.drewN 0⟩⟩
              case round =>
                clear HPASS HX hcn
                obtain ⟨i, nearj, agj, rfl, rfl, HI, HP, HX⟩ := hrel
                have hi6 : (i : Int) + 1 ≤ 1000001 := by have := HI.out; have := HBL.out; omega
                by_cases hlt : i < bs.length
                · have hil : (i : Int) < bs.length := by omega
                  have hi0 : (0 : Int) ≤ (i : Int) := by omega
                  obtain ⟨ad, e1, hcb⟩ := (HAD.out _ (Kd.R_reads' HX.out.ho).2.2).at_ (i : Int) hi0 hil
                  subst e1
                  rw [Int.toNat_natCast] at hcb
                  have hp := HP.out
                  rw [List.drop_eq_getElem_cons hlt, graph_Doms.pass] at hp
                  have hrd : rd bs (i : Int) = bs[i] := by simp [rd, List.getD, hlt]
                  rw [← hrd] at hp
                  obtain ⟨b, hb⟩ : ∃ b, b = rd bs (i : Int) := ⟨_, rfl⟩
                  rw [← hb] at hcb hp
                  by_cases hbr : 0 ≤ b ∧ b < frm.length ∧ b < nearj.length
                  case neg => rw [if_neg hbr] at hp; cases hp
                  rw [if_pos hbr] at hp
                  obtain ⟨hb0, hb1, hb2⟩ := hbr
                  obtain ⟨q, hbest, hp⟩ := Option.bind_eq_some_iff.1 hp
                  have HB := Aside0.mk hbest
                  have HP2 := Aside0.mk hp
                  have hnl := HX.out.nlen
                  have hbm : b < (j : Int) := by omega
                  obtain ⟨af, A0, c0, e1, hcf, hl0, hi0'⟩ := at_L1 (Kd.S_reads' HX.out.hf).2.2 b hb0 hb1
                  subst e1
                  have HC0 := Aside0.mk hi0'
                  have hpsl : (rd_L1 frm b).length ≤ 9223372036854775807 := hi0'.2.1
                  have hcp := (cell_of_blk HX.out.bcp).1
                  have hcn := (cell_of_blk HX.out.bcn).1
                  have HLT := Aside0.mk hlt
                  obtain ⟨ps, hps⟩ : ∃ ps, ps = rd_L1 frm b := ⟨_, rfl⟩
                  rw [← hps] at HB hcf hl0 HC0 hpsl
                  obtain ⟨wo, hwo⟩ : ∃ wo : World, wo = wr := ⟨_, rfl⟩
                  subst hwo
                  clear hbest hp HP hrd hb hb2 hnl hlt hi0' hps HI
                  go_wp2
                  go_loopw [72, 16] (fun v72 v16 wr => ∃ (i2 : Nat) (best : Int) (nn : Nat), v72 = .int .i64 (i2 : Int) ∧ v16 = .int .i64 best ∧ wr = wo.drewN nn ∧ Aside0 (i2 ≤ ps.length) ∧ Aside0 (graph_Doms.best k1 place nearj (ps.drop i2) best = some q)) (fun v72 _ _ => ps.length - (intOf v72).toNat)
                  case atStart => exact ⟨0, -1, 0, rfl, rfl, rfl, ⟨Nat.zero_le _⟩, HB⟩
                  case round =>
                    clear HB
                    obtain ⟨i2, best, nn, rfl, rfl, rfl, HI2, HB⟩ := hrel
                    by_cases hlt2 : i2 < ps.length
                    · have hil2 : (i2 : Int) < ps.length := by omega
                      have hi20 : (0 : Int) ≤ (i2 : Int) := by omega
                      have hi26 : (i2 : Int) + 1 ≤ 9223372036854775807 := by omega
                      obtain ⟨ap, e1, hcq⟩ := Kd.at_int HC0.out (i2 : Int) hi20 hil2
                      subst e1
                      rw [Int.toNat_natCast] at hcq
                      have hbb := HB.out
                      rw [List.drop_eq_getElem_cons hlt2, graph_Doms.best] at hbb
                      have hrd2 : rd ps (i2 : Int) = ps[i2] := by simp [rd, List.getD, hlt2]
                      rw [← hrd2] at hbb
                      obtain ⟨p, hp⟩ : ∃ p, p = rd ps (i2 : Int) := ⟨_, rfl⟩
                      rw [← hp] at hcq hbb
                      by_cases hpr : inB place nearj p
                      case neg => rw [if_neg hpr] at hbb; cases hbb
                      rw [if_pos hpr] at hbb
                      obtain ⟨hp0, hp1, hp2⟩ := hpr
                      have hplen := HX.out.plen
                      have hpm : p < (j : Int) := by omega
                      obtain ⟨hcy, _⟩ := Kd.R_celln (0 : Int) HX.out.hp p hp0 hpm
                      obtain ⟨hcx, _⟩ := Kd.R_celln (0 : Int) HX.out.hn p hp0 hpm
                      replace hcy : wo.cell? ⟨pb, p.toNat, none⟩ = some (.int .i64 (rd place p)) := hcy
                      replace hcx : wo.cell? ⟨nb, p.toNat, none⟩ = some (.int .i64 (rd nearj p)) := hcx
                      have HLT2 := Aside0.mk hlt2
                      have HBB := Aside0.mk hbb
                      clear hbb HB hrd2 hp hp1 hp2 hplen hlt2
                      by_cases c1 : rd place p < 0
                      · have hd1 : decide (rd place p < 0) = true := decide_eq_true c1
                        have hb1 := HBB.out
                        rw [if_pos (Or.inl c1)] at hb1
                        have HB1 := Aside0.mk hb1
                        clear hb1 HBB c1
                        go_wp2
                        go_roundw
                        case measure => have := HLT2.out; simp [intOf]; omega
                        case rel => exact ⟨i2 + 1, best, _, by go_num, rfl, rfl, ⟨by have := HLT2.out; omega⟩, HB1⟩
                      · have hd1 : decide (rd place p < 0) = false := decide_eq_false c1
                        by_cases c2 : p = 0
                        · have hd2 : (p != 0) = false := by rw [c2]; rfl
                          have hb1 := HBB.out
                          rw [if_neg (fun h => h.elim c1 (fun h => h.1 c2))] at hb1
                          clear HBB c1 c2
                          by_cases c4 : best < 0
                          · have hd4 : decide (best < 0) = true := decide_eq_true c4
                            rw [if_pos c4] at hb1
                            have HB1 := Aside0.mk hb1
                            clear hb1 c4
                            go_wp2
                            go_roundw
                            case measure => have := HLT2.out; simp [intOf]; omega
                            case rel => exact ⟨i2 + 1, p, _, by go_num, rfl, rfl, ⟨by have := HLT2.out; omega⟩, HB1⟩
                          · have hd4 : decide (best < 0) = false := decide_eq_false c4
                            rw [if_neg c4] at hb1
                            obtain ⟨q2, hm2, hb2⟩ := Option.bind_eq_some_iff.1 hb1
                            have HB1 := Aside0.mk hb2
                            have HM2 := Aside0.mk hm2
                            clear hb1 hb2 hm2 c4
                            have HQ1 : Aside0 (∀ nn, (wo.drewN nn).cell? ⟨w3.heap.size, 0, none⟩ = some (.slice (some ⟨pb, 0, none⟩) place.length cp)) := ⟨fun nn => by rw [HX.out.plen]; exact (cell_of_blk (HX.out.drewN nn).bcp).1⟩
                            have HQ2 : Aside0 (∀ nn, (wo.drewN nn).cell? ⟨w5.heap.size, 0, none⟩ = some (.slice (some ⟨nb, 0, none⟩) nearj.length cn)) := ⟨fun nn => by rw [HX.out.nlen]; exact (cell_of_blk (HX.out.drewN nn).bcn).1⟩
                            go_wp2_with (go_at_call 31; go_must (refine (meet_calls w3.heap.size w5.heap.size (some ⟨pb, 0, none⟩) (some ⟨nb, 0, none⟩) cp cn place nearj (wo.drewN _) (HQ1.out _) (HQ2.out _) (Kd.R_reads' (HX.out.drewN _).hp).2.2 (Kd.R_reads' (HX.out.drewN _).hn).2.2 k1 best p q2 HM2.out).mono ?_; rintro e w' ⟨rfl, n', rfl⟩))
                            go_roundw
                            case measure => have := HLT2.out; simp [intOf]; omega
                            case rel => exact ⟨i2 + 1, q2, _, by go_num, rfl, rfl, ⟨by have := HLT2.out; omega⟩, HB1⟩
                        · have hd2 : (p != 0) = true := by rw [bne_iff_ne]; exact c2
                          by_cases c3 : rd nearj p < 0
                          · have hd3 : decide (rd nearj p < 0) = true := decide_eq_true c3
                            have hb1 := HBB.out
                            rw [if_pos (Or.inr ⟨c2, c3⟩)] at hb1
                            have HB1 := Aside0.mk hb1
                            clear hb1 HBB c1 c2 c3
                            go_wp2
                            go_roundw
                            case measure => have := HLT2.out; simp [intOf]; omega
                            case rel => exact ⟨i2 + 1, best, _, by go_num, rfl, rfl, ⟨by have := HLT2.out; omega⟩, HB1⟩
                          · have hd3 : decide (rd nearj p < 0) = false := decide_eq_false c3
                            have hb1 := HBB.out
                            rw [if_neg (fun h => h.elim c1 (fun h => c3 h.2))] at hb1
                            clear HBB c1 c2 c3
                            by_cases c4 : best < 0
                            · have hd4 : decide (best < 0) = true := decide_eq_true c4
                              rw [if_pos c4] at hb1
                              have HB1 := Aside0.mk hb1
                              clear hb1 c4
                              go_wp2
                              go_roundw
                              case measure => have := HLT2.out; simp [intOf]; omega
                              case rel => exact ⟨i2 + 1, p, _, by go_num, rfl, rfl, ⟨by have := HLT2.out; omega⟩, HB1⟩
                            · have hd4 : decide (best < 0) = false := decide_eq_false c4
                              rw [if_neg c4] at hb1
                              obtain ⟨q2, hm2, hb2⟩ := Option.bind_eq_some_iff.1 hb1
                              have HB1 := Aside0.mk hb2
                              have HM2 := Aside0.mk hm2
                              clear hb1 hb2 hm2 c4
                              have HQ1 : Aside0 (∀ nn, (wo.drewN nn).cell? ⟨w3.heap.size, 0, none⟩ = some (.slice (some ⟨pb, 0, none⟩) place.length cp)) := ⟨fun nn => by rw [HX.out.plen]; exact (cell_of_blk (HX.out.drewN nn).bcp).1⟩
                              have HQ2 : Aside0 (∀ nn, (wo.drewN nn).cell? ⟨w5.heap.size, 0, none⟩ = some (.slice (some ⟨nb, 0, none⟩) nearj.length cn)) := ⟨fun nn => by rw [HX.out.nlen]; exact (cell_of_blk (HX.out.drewN nn).bcn).1⟩
                              go_wp2_with (go_at_call 31; go_must (refine (meet_calls w3.heap.size w5.heap.size (some ⟨pb, 0, none⟩) (some ⟨nb, 0, none⟩) cp cn place nearj (wo.drewN _) (HQ1.out _) (HQ2.out _) (Kd.R_reads' (HX.out.drewN _).hp).2.2 (Kd.R_reads' (HX.out.drewN _).hn).2.2 k1 best p q2 HM2.out).mono ?_; rintro e w' ⟨rfl, n', rfl⟩))
                              go_roundw
                              case measure => have := HLT2.out; simp [intOf]; omega
                              case rel => exact ⟨i2 + 1, q2, _, by go_num, rfl, rfl, ⟨by have := HLT2.out; omega⟩, HB1⟩
                    · have hil2 : ¬ (i2 : Int) < ps.length := by omega
                      have hd : ps.drop i2 = [] := List.drop_eq_nil_of_le (by omega)
                      have hbb := HB.out
                      rw [hd, graph_Doms.best, Option.some.injEq] at hbb
                      subst hbb
                      clear hd HB hlt2
                      obtain ⟨hcx, hfx⟩ := Kd.R_celln (0 : Int) HX.out.hn b hb0 hbm
                      replace hcx : wo.cell? ⟨nb, b.toNat, none⟩ = some (.int .i64 (rd nearj b)) := hcx
                      have hp := HP2.out
                      by_cases hne : rd nearj b = best
                      · rw [if_pos hne] at hp
                        have hnb : (rd nearj b != best) = false := by rw [hne]; simp
                        have HP3 := Aside0.mk hp
                        clear hp HP2 hne
                        go_wp2
                        go_roundw
                        case measure => have := HLT.out; simp [intOf]; omega
                        case rel => exact ⟨i + 1, _, _, by go_num, rfl, ⟨by have := HLT.out; omega⟩, HP3, ⟨HX.out.drewN _⟩⟩
                      · rw [if_neg hne] at hp
                        have hnb : (rd nearj b != best) = true := by rw [bne_iff_ne]; exact hne
                        have HP3 := Aside0.mk hp
                        clear hp HP2 hne
                        go_wp2
                        go_roundw
                        case measure => have := HLT.out; simp [intOf]; omega
                        case rel => exact ⟨i + 1, _, _, by go_num, rfl, ⟨by have := HLT.out; omega⟩, HP3, ⟨(HX.out.drewN _).setNear b best⟩⟩
                · have hil : ¬ (i : Int) < bs.length := by omega
                  have hd : bs.drop i = [] := List.drop_eq_nil_of_le (by omega)
                  have hp := HP.out
                  rw [hd, graph_Doms.pass, Option.some.injEq, Prod.mk.injEq] at hp
                  obtain ⟨rfl, rfl⟩ := hp
                  clear hd hlt HP
                  go_wp2
                  go_roundg k1
                  case measure => omega
                  case rel => exact ⟨_, _, rfl, HG2, ⟨HX.out.drewN 0⟩⟩
end Go.Proofs.Ytafjbebbmfihaaa.P
