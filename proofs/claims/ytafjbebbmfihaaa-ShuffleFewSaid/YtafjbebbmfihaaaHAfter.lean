/- ferrulelaw20.after does what after_run and after_look say; no condition. -/
import Derived.Test.YtafjbebbmfihaaaSDefs
import Derived.Test.YtafjbebbmfihaaaHMeet
namespace Go.Proofs.Ytafjbebbmfihaaa.P
open Go.RowKit Go.Proofs.YtafjbebbmfihaaaW.PrintWords Go.Proofs.YtafjbebbmfihaaaW.PrintLast Go.Proofs.YtafjbebbmfihaaaW.PrintMore
set_option linter.unusedVariables false
set_option linter.unusedSimpArgs false
set_option linter.unusedSectionVars false

theorem info57 : (Try.prog.info? 57).map (fun i => (i.zero, i.size, i.bytes)) = some (some (.agg #[(.int .i64 0), (.int .i64 0)]), 2, 16) := by kernel_rfl
theorem cell_alloc {w : World} {a : Addr} {v : Value} (h : w.cell? a = some v) (o : Obj) : (w.alloc o).cell? a = some v := ((below_alloc (Below.refl w.heap.size w) o).cell (World.block_lt_of_cell? w a h)).trans h
/-- The variable's block is not the row's. -/
theorem after_keep {w w2 w3 : World} {v u : Value} {h : List S38} (HH : w2.heap[w.heap.size]? = some (.cells #[u] 55 (0, 0))) (HR : Kd.R k38 57 w2 w.heap.size (fun k => k ≠ w.heap.size) v h) (hg : w2.grownBy w3 v.ownBlock) : w3.heap[w.heap.size]? = some (.cells #[u] 55 (0, 0)) :=
  (hg.block w.heap.size (Array.getElem?_eq_some_iff.1 HH).1 (fun e => (Kd.R_bound HR).1 w.heap.size e.symm |>.1 rfl)).trans HH

set_option maxHeartbeats 2000000 in
set_option maxRecDepth 100000 in
theorem after1_calls (hb : Nat) (A : Option Addr) (c : Nat) (h : List S38) (w : World) (hcell : w.cell? ⟨hb, 0, none⟩ = some (.slice A h.length c)) (hC : Kd.C k38 w A h.length h) (hl : h.length < 1000000) (a : Int) :
    Calls Try.prog 30 #[.int .i64 a, ptr hb] w (Quiet0 w (after_look h a)) := by
  have HC := Aside0.mk hC
  have HL := Aside0.mk hl
  clear hC hl
  go_enter Try.func30, Try.ntmps30
  go_wp2
  go_loopw [4] (fun v4 wr => ∃ (j nn : Nat), v4 = .int .i64 (j : Int) ∧ wr = w.drewN nn ∧ Aside0 (j ≤ h.length) ∧ Aside0 (after_look (h.drop j) a = after_look h a)) (fun v4 _ => h.length - (intOf v4).toNat)
  case atStart => exact ⟨0, 0, rfl, rfl, ⟨Nat.zero_le _⟩, ⟨rfl⟩⟩
  case round =>
    obtain ⟨j, nn, rfl, rfl, HJ, HA⟩ := hrel
    have hj6 : (j : Int) + 1 ≤ 1000001 := by have := HJ.out; have := HL.out; omega
    by_cases hlt : j < h.length
    · have hjl : (j : Int) < h.length := by omega
      have hj0 : (0 : Int) ≤ (j : Int) := by omega
      obtain ⟨ad, e1, hx0, hx1⟩ := at_T38 HC.out (j : Int) hj0 hjl
      subst e1
      rw [Int.toNat_natCast] at hx0 hx1
      have ha := HA.out
      rw [List.drop_eq_getElem_cons hlt, after_look] at ha
      have hrd : rd_T38 h (j : Int) = h[j] := by simp [rd_T38, List.getD, hlt]
      rw [← hrd] at ha
      generalize rd_T38 h (j : Int) = p at hx0 hx1 ha
      obtain ⟨x, y⟩ := p
      replace hx0 : w.cell? (ad.add (j * 2)) = some (.int .i64 x) := hx0
      replace hx1 : w.cell? ⟨(ad.add (j * 2)).block, (ad.add (j * 2)).off + 1, none⟩ = some (.int .i64 y) := hx1
      replace ha : (if x = a then y else after_look (h.drop (j + 1)) a) = after_look h a := ha
      have HLT := Aside0.mk hlt
      clear hrd hlt HA
      by_cases hxa : x = a
      · have hbe : (x == a) = true := by rw [hxa]; simp
        rw [if_pos hxa] at ha
        have HA2 := Aside0.mk ha
        clear ha hxa
        go_wp2
        go_ret
        exact ⟨by rw [← HA2.out]; rfl, _, rfl⟩
      · have hbe : (x == a) = false := by rw [beq_eq_false_iff_ne]; exact hxa
        rw [if_neg hxa] at ha
        have HA2 := Aside0.mk ha
        clear ha hxa
        go_wp2
        go_roundw
        case measure => have := HLT.out; simp [intOf]; omega
        case rel => exact ⟨j + 1, _, by go_num, rfl, ⟨by have := HLT.out; omega⟩, HA2⟩
    · have hjl : ¬ (j : Int) < h.length := by omega
      have hd : h.drop j = [] := List.drop_eq_nil_of_le (by omega)
      have ha := HA.out
      rw [hd, after_look] at ha
      have HA2 := Aside0.mk ha
      clear hd ha HA hlt
      go_wp2
      go_ret
      exact ⟨by rw [← HA2.out]; rfl, _, rfl⟩

theorem upd_step {h : List S38} {k : Nat} {a v : Int} (hk : k < h.length) : after_upd (h.take (k + 1)) a v ++ h.drop (k + 1) = (after_upd (h.take k) a v ++ h.drop k).set k (if h[k].f0 = a then ⟨h[k].f0, v⟩ else h[k]) := by
  have hl : (after_upd (h.take k) a v).length = k := by simp [after_upd]; omega
  rw [List.take_succ_eq_append_getElem hk, List.drop_eq_getElem_cons hk]
  have e : after_upd (h.take k ++ [h[k]]) a v = after_upd (h.take k) a v ++ [if h[k].f0 = a then ⟨h[k].f0, v⟩ else h[k]] := by unfold after_upd; rw [List.map_append, List.map_singleton]
  rw [e, List.set_append_right _ _ (by omega), hl, Nat.sub_self, List.set_cons_zero, List.append_assoc]
  rfl
theorem upd_same {h : List S38} {k : Nat} {a v : Int} (hk : k < h.length) : (after_upd (h.take k) a v ++ h.drop k).set k h[k] = after_upd (h.take k) a v ++ h.drop k := by
  have hl : (after_upd (h.take k) a v).length = k := by simp [after_upd]; omega
  rw [List.drop_eq_getElem_cons hk, List.set_append_right _ _ (by omega), hl, Nat.sub_self, List.set_cons_zero]
theorem upd_at {h : List S38} {k : Nat} {a v : Int} (hk : k < h.length) : rd_T38 (after_upd (h.take k) a v ++ h.drop k) (k : Int) = h[k] := by
  have hl : (after_upd (h.take k) a v).length = k := by simp [after_upd]; omega
  simp only [rd_T38, Int.toNat_natCast, List.getD_eq_getElem?_getD]
  rw [List.getElem?_append_right (by omega), hl, Nat.sub_self, List.drop_eq_getElem_cons hk]
  rfl
theorem upd_length (h : List S38) (k : Nat) (a v : Int) (hk : k ≤ h.length) : (after_upd (h.take k) a v ++ h.drop k).length = h.length := by
  simp [after_upd]; omega
theorem upd_none {h : List S38} {a v : Int} (hn : ¬ h.any (fun p => p.f0 == a) = true) : after_upd h a v = h := by
  unfold after_upd
  rw [List.map_congr_left (g := id) (fun p hp => ?_), List.map_id]
  rw [if_neg (fun e => hn (List.any_eq_true.2 ⟨p, hp, by simpa using e⟩))]
  rfl

set_option maxHeartbeats 8000000 in
set_option maxRecDepth 100000 in
theorem ferrulelaw20_after.calls (k : Nat) (A0 : Option Addr) (c0 : Nat) (l0 : List S38) (a1 : Int) (r : Int) (w : World) (hr0 : Kd.C k38 w A0 l0.length l0) (hc0 : l0.length ≤ c0) (h : ferrulelaw20_after.f k l0 a1 = some r) :
    Calls Try.prog 17 #[.slice A0 l0.length c0, .int .i64 a1] w fun e w' => e = .returned (.int .i64 r) ∧ Below w.heap.size w w' := by
  unfold ferrulelaw20_after.f at h
  by_cases hl : l0.length < 1000000
  case neg => rw [if_neg hl] at h; cases h
  rw [if_pos hl, Option.some.injEq] at h
  have hmf : ∀ (fn : Fn) (first cap : Array Value) (w : World), (Instr.makeFunc fn first cap).run Try.prog w = .ok (.func fn first cap) w := fun _ _ _ _ => rfl
  have H := Aside0.mk h
  have HL := Aside0.mk hl
  have HC := Aside0.mk hr0
  clear h hl hr0 hc0
  go_enter Try.func17, Try.ntmps17
  go_wp2
  go_loopw [7] (fun v7 wr => ∃ (i : Nat) (h : List S38) (v : Value), v7 = .int .i64 (i : Int) ∧ Aside0 (i ≤ l0.length) ∧ Aside0 (h.length ≤ i) ∧ Aside0 (after_run (l0.drop i) h = after_run l0 []) ∧ Aside0 (wr.heap[w.heap.size]? = some (.cells #[v] 55 (0, 0))) ∧ Aside0 (Kd.R k38 57 wr w.heap.size (fun k => k ≠ w.heap.size) v h) ∧ Aside0 (Below w.heap.size w wr)) (fun v7 _ => l0.length - (intOf v7).toNat)
  case atStart => exact ⟨0, [], .slice none 0 0, rfl, ⟨Nat.zero_le _⟩, ⟨Nat.le_refl _⟩, ⟨rfl⟩, ⟨heap_alloc_new w _⟩, ⟨Kd.R_nil _ _ _ _ _⟩, ⟨below_alloc (Below.refl _ _) _⟩⟩
  case round =>
    obtain ⟨i, h, v, rfl, HI, HHI, HRUN, HH, HR, HB⟩ := hrel
    obtain ⟨A, c, hv⟩ := Kd.R_slice HR.out
    subst hv
    have hcell := (cell_of_blk HH.out).1
    have hi6 : (i : Int) + 1 ≤ 1000001 := by have := HI.out; have := HL.out; omega
    have HL6 : Aside0 (h.length < 1000000 ∧ h.length ≤ i) := ⟨by have := HI.out; have := HL.out; have := HHI.out; omega, HHI.out⟩
    by_cases hlt : i < l0.length
    · have hil : (i : Int) < l0.length := by omega
      have hi0 : (0 : Int) ≤ (i : Int) := by omega
      obtain ⟨ad, e1, hx0, hx1⟩ := at_T38 (Kd.C_below HC.out HB.out) (i : Int) hi0 hil
      subst e1
      rw [Int.toNat_natCast] at hx0 hx1
      have hrun := HRUN.out
      rw [List.drop_eq_getElem_cons hlt, after_run] at hrun
      have hrd : rd_T38 l0 (i : Int) = l0[i] := by simp [rd_T38, List.getD, hlt]
      rw [← hrd] at hrun
      obtain ⟨p, hp⟩ : ∃ p, p = rd_T38 l0 (i : Int) := ⟨_, rfl⟩
      rw [← hp] at hx0 hx1 hrun
      have HC2 : Aside0 (∀ w2 : World, Below w.heap.size w w2 → w2.cell? (ad.add (i * 2)) = some (.int .i64 p.f0)) := ⟨fun w2 hb2 => by
        obtain ⟨ad2, e2, g0, _⟩ := at_T38 (Kd.C_below HC.out hb2) (i : Int) hi0 hil
        obtain rfl := Option.some.inj e2
        rw [Int.toNat_natCast, ← hp] at g0
        exact g0⟩
      obtain ⟨x, z⟩ := p
      replace hx1 : wr.cell? ⟨(ad.add (i * 2)).block, (ad.add (i * 2)).off + 1, none⟩ = some (.int .i64 z) := hx1
      replace hrun : after_run (l0.drop (i + 1)) (after_put h x (after_look h z)) = after_run l0 [] := hrun
      replace HC2 : Aside0 (∀ w2 : World, Below w.heap.size w w2 → w2.cell? (ad.add (i * 2)) = some (.int .i64 x)) := HC2
      have HRUN2 := Aside0.mk hrun
      have HLT0 := Aside0.mk hlt
      clear hrun HRUN hrd hp hlt HI HHI hx0
      go_wp2_with (go_at_call 30; go_must (refine (after1_calls w.heap.size A c h _ (cell_of_blk HH.out).1 (Kd.R_reads' HR.out).2.2 HL6.out.1 z).mono ?_; rintro e w' ⟨rfl, n', rfl⟩))
      obtain ⟨y, hy⟩ : ∃ y, y = after_look h z := ⟨_, rfl⟩
      rw [← hy] at HRUN2
      rw [← hy]
      clear hy hx1
      have HR0 := Aside0.mk (Kd.R_drewN HR.out n')
      have HB0 := Aside0.mk (pw_below_drewN HB.out n')
      have HH0 : Aside0 ((wr.drewN n').heap[w.heap.size]? = some (.cells #[.slice A h.length c] 55 (0, 0))) := ⟨HH.out⟩
      clear HR HB HH hcell
      go_wp2
      go_loopw [9, 10] (fun v9 v10 w2 => ∃ (kk : Nat), v9 = .bool ((h.take kk).any (fun p => p.f0 == x)) ∧ v10 = .int .i64 (kk : Int) ∧ Aside0 (kk ≤ h.length) ∧ Aside0 (w2.heap[w.heap.size]? = some (.cells #[.slice A h.length c] 55 (0, 0))) ∧ Aside0 (Kd.R k38 57 w2 w.heap.size (fun k => k ≠ w.heap.size) (.slice A h.length c) (after_upd (h.take kk) x y ++ h.drop kk)) ∧ Aside0 (Below w.heap.size w w2)) (fun _ v10 _ => h.length - (intOf v10).toNat)
      case atStart => exact ⟨0, rfl, rfl, ⟨Nat.zero_le _⟩, HH0, HR0, HB0⟩
      case round =>
        clear HR0 HB0 HH0
        obtain ⟨kk, rfl, rfl, HK, HH, HR, HB⟩ := hrel
        have hcell := (cell_of_blk HH.out).1
        have hx0 := HC2.out wr HB.out
        have hk6 : (kk : Int) + 1 ≤ 1000001 := by have := HK.out; have := HL6.out; omega
        by_cases hlt : kk < h.length
        · have hkl : (kk : Int) < h.length := by omega
          have hk0 : (0 : Int) ≤ (kk : Int) := by omega
          have hul := upd_length h kk x y (by omega)
          obtain ⟨g, cap, e1, hg1, hg2, cells, hcells⟩ := Kd.R_form HR.out (by omega)
          rw [hul] at e1
          injection e1 with e1 _ e3
          subst e1
          subst e3
          have hul2 : (kk : Int) < ((after_upd (h.take kk) x y ++ h.drop kk).length : Int) := by omega
          obtain ⟨cs, hcl, hM, hcc, _⟩ := Kd.R_elem HR.out z38 (kk : Int) hk0 hkl
          have hMo := k38_openM hM
          have hgd : (after_upd (h.take kk) x y ++ h.drop kk).getD (kk : Int).toNat z38 = h[kk] := upd_at hlt
          rw [hgd] at hMo
          subst hMo
          have hy0 : wr.cell? ⟨g, kk * 2, none⟩ = some (.int .i64 h[kk].f0) := hcc 0 _ rfl
          have HCC := Aside0.mk hcc
          have hany : (h.take (kk + 1)).any (fun p => p.f0 == x) = ((h.take kk).any (fun p => p.f0 == x) || (h[kk].f0 == x)) := by
            rw [List.take_succ_eq_append_getElem hlt, List.any_append]
            simp
          have hust := upd_step (a := x) (v := y) hlt
          have hsame := upd_same (a := x) (v := y) hlt
          generalize h[kk] = q at hy0 hany hust HCC hsame
          have HSAME := Aside0.mk hsame
          have HANY := Aside0.mk hany
          have HUST := Aside0.mk hust
          have HLT := Aside0.mk hlt
          clear hcells hul hg1 hg2 hcc hM hgd hcl hany hust hlt hul2 hsame
          by_cases hqx : q.f0 = x
          · have hbe : (q.f0 == x) = true := by rw [hqx]; simp
            have HQ := Aside0.mk hqx
            clear hqx
            go_wp2_with fail
            go_quiet (fail)
            go_wp2_with ((with_reducible refine gate_store (t := 3) (p := 46) rfl ?_); go_must (refine Kd.R_store k38 (w0 := w) w.heap.size rfl rfl 3 (.tmp 46) (.tmp 44) rfl 57 (kk : Int) 1 (after_upd (h.take kk) x y ++ h.drop kk) ⟨q.f0, y⟩ (.int .i64 y) [.int .i64 y] [.int .i64 q.f0, .int .i64 q.f1] (fun k => k ≠ w.heap.size) (fun _ => False) rfl rfl rfl rfl (by rfl) (fun q hq => by rw [List.mem_singleton.1 hq]; rfl) (Kd.R_drewN HR.out _) hk0 hkl rfl HCC.out (show 1 + [Value.int .i64 y].length ≤ 2 from Nat.le_refl _) (k38_mkM _ _ _ _) (fun _ hk => hk.elim) (pw_below_drewN HB.out _) ?_; intro w4 hR4 hB4 hg4; have HR4 := Aside0.mk hR4; have HB4 := Aside0.mk hB4; have HG4 := Aside0.mk hg4; clear hR4 hB4 hg4))
            go_roundw
            case measure => have := HLT.out; simp [intOf]; omega
            case rel => exact ⟨kk + 1, by rw [HANY.out, hbe]; simp, by go_num, ⟨by have := HLT.out; omega⟩, ⟨after_keep (w2 := wr.drewN _) HH.out (Kd.R_drewN HR.out _) HG4.out⟩, ⟨by rw [HUST.out, if_pos HQ.out]; exact HR4.out⟩, HB4⟩
          · have hbe : (q.f0 == x) = false := by rw [beq_eq_false_iff_ne]; exact hqx
            have HQ := Aside0.mk hqx
            clear hqx
            go_wp2_with fail
            go_quiet (fail)
            go_wp2
            go_roundw
            case measure => have := HLT.out; simp [intOf]; omega
            case rel => exact ⟨kk + 1, by rw [HANY.out, hbe]; simp, by go_num, ⟨by have := HLT.out; omega⟩, ⟨HH.out⟩, ⟨by
              have e := HUST.out
              rw [if_neg HQ.out, HSAME.out] at e
              rw [e]
              exact Kd.R_drewN HR.out _⟩, ⟨pw_below_drewN HB.out _⟩⟩
        · have hkl : ¬ (kk : Int) < h.length := by omega
          have ek : kk = h.length := by have := HK.out; omega
          subst ek
          have hR := HR.out
          rw [List.take_length, List.drop_length, List.append_nil] at hR
          have HR2 := Aside0.mk hR
          clear hR HR hlt HK
          rw [List.take_length]
          by_cases hany : h.any (fun p => p.f0 == x) = true
          · rw [hany]
            have HP : Aside0 (after_put h x y = after_upd h x y) := ⟨if_pos hany⟩
            clear hany
            go_wp2
            go_roundw
            case measure => have := HLT0.out; simp [intOf]; omega
            case rel => exact ⟨i + 1, after_upd h x y, _, by go_num, ⟨by have := HLT0.out; omega⟩, ⟨by have := HL6.out.2; simp [after_upd]; omega⟩, ⟨by rw [← HP.out]; exact HRUN2.out⟩, ⟨HH.out⟩, ⟨by (with_reducible repeat (first | apply Kd.R_drewN | apply Kd.R_drew)); exact HR2.out⟩, ⟨by (with_reducible repeat (first | apply pw_below_drewN | apply below_drew1)); exact HB.out⟩⟩
          · have HP : Aside0 (after_put h x y = h ++ [⟨x, y⟩]) := ⟨if_neg hany⟩
            have hR := HR2.out
            rw [upd_none hany] at hR
            have HR := Aside0.mk hR
            have hany2 : h.any (fun p => p.f0 == x) = false := by simpa using hany
            rw [hany2]
            have HLT : Aside0 (w.heap.size < wr.heap.size) := ⟨(Array.getElem?_eq_some_iff.1 HH.out).1⟩
            clear hR HR2 hany hany2
            have HSM := Aside0.mk hi0
            go_wp2_with fail
            refine start_ (n := 11) (S := fun w' => w'.cell? ⟨w.heap.size, 0, none⟩ = some (.slice A h.length c) ∧ w'.cell? (ad.add (i * 2)) = some (.int .i64 x)) (ds := [9, 10]) #[false, false, false, false, false, false, false, false, false, false, false] (by kernel_rfl) rfl rfl ⟨hcell, hx0⟩ (fun hHeld => ?_)
            refine pure_ (i := 1) (N := some 50) (v := ?_) (a' := ?_) #[false, true, false, false, false, false, false, false, false, false, false] rfl rfl (by kernel_rfl) (fun _ _ _ h => h) (Or.inl ⟨by rfl, ?_⟩) ?_ ?_
            rotate_left
            · intro w'
              go_simp
              with_reducible rfl
            rotate_left
            · simp only [Act.put, List.setIfInBounds_toArray, List.set_cons_zero, List.set_cons_succ, i64_w, i32_w]
              rfl
            refine pure_ (i := 2) (N := some 51) (v := ?_) (a' := ?_) #[false, true, true, false, false, false, false, false, false, false, false] rfl rfl (by kernel_rfl) (fun _ _ _ h => h) (Or.inl ⟨by rfl, ?_⟩) ?_ ?_
            rotate_left
            · intro w'
              go_simp
              with_reducible rfl
            rotate_left
            · simp only [Act.put, List.setIfInBounds_toArray, List.set_cons_zero, List.set_cons_succ, i64_w, i32_w]
              rfl
            refine pure_ (i := 3) (N := some 52) (v := ?_) (a' := ?_) #[false, true, true, true, false, false, false, false, false, false, false] rfl rfl (by kernel_rfl) (fun _ _ _ h => h) (Or.inl ⟨by rfl, ?_⟩) ?_ ?_
            rotate_left
            · intro w'
              go_simp
              with_reducible rfl
            rotate_left
            · simp only [Act.put, List.setIfInBounds_toArray, List.set_cons_zero, List.set_cons_succ, i64_w, i32_w]
              rfl
            refine pure_ (i := 4) (N := some 53) (v := ?_) (a' := ?_) #[false, true, true, true, true, false, false, false, false, false, false] rfl rfl (by kernel_rfl) (fun _ _ _ h => h) (Or.inl ⟨by rfl, ?_⟩) ?_ ?_
            rotate_left
            · intro w'
              go_simp
              with_reducible rfl
            rotate_left
            · simp only [Act.put, List.setIfInBounds_toArray, List.set_cons_zero, List.set_cons_succ, i64_w, i32_w]
              rfl
            refine pure_ (i := 6) (N := some 55) (v := ?_) (a' := ?_) #[false, true, true, true, true, false, true, false, false, false, false] rfl rfl (by kernel_rfl) (fun _ _ _ h => h) (Or.inl ⟨by rfl, ?_⟩) ?_ ?_
            rotate_left
            · intro w'
              go_simp
              with_reducible rfl
            rotate_left
            · simp only [Act.put, List.setIfInBounds_toArray, List.set_cons_zero, List.set_cons_succ, i64_w, i32_w]
              rfl
            refine take_ (i := 0) (N := some 49) (v := ?_) (a' := ?_) #[true, true, true, true, true, false, true, false, false, false, false] rfl rfl (by kernel_rfl) (fun _ _ _ h => h) (Or.inl ⟨by rfl, ?_⟩) hHeld ?_ ?_
            rotate_left
            · rintro w' ⟨s0, s1⟩
              go_simp
              with_reducible rfl
            rotate_left
            · simp only [Act.put, List.setIfInBounds_toArray, List.set_cons_zero, List.set_cons_succ, i64_w, i32_w]
              rfl
            refine take_ (i := 5) (N := some 54) (v := ?_) (a' := ?_) #[true, true, true, true, true, true, true, false, false, false, false] rfl rfl (by kernel_rfl) (fun _ _ _ h => h) (Or.inl ⟨by rfl, ?_⟩) hHeld ?_ ?_
            rotate_left
            · rintro w' ⟨s0, s1⟩
              go_simp
              with_reducible rfl
            rotate_left
            · simp only [Act.put, List.setIfInBounds_toArray, List.set_cons_zero, List.set_cons_succ, i64_w, i32_w]
              rfl
            refine pure_ (i := 7) (N := some 56) (v := ?_) (a' := ?_) #[true, true, true, true, true, true, true, true, false, false, false] rfl rfl (by kernel_rfl) (fun _ _ _ h => h) (Or.inl ⟨by rfl, ?_⟩) ?_ ?_
            rotate_left
            · intro w'
              go_simp
              with_reducible rfl
            rotate_left
            · simp only [Act.put, List.setIfInBounds_toArray, List.set_cons_zero, List.set_cons_succ, i64_w, i32_w]
              rfl
            refine one_ (i := 8) (N := some 57) #[true, true, true, true, true, true, true, true, true, false, false] rfl rfl (by kernel_rfl) (by decide) (fun K hK => ?_)
            refine value_ (w1 := ?_) (v := ?_) (by rfl) rfl ?_ ?_
            rotate_left 2
            · go_simp
              constructor
              · rfl
              · rfl
            refine hK.out _ _ ⟨cell_alloc hHeld.1 _, cell_alloc hHeld.2 _⟩ (fun hHeld => ?_)
            clear hK K
            refine norm_ (a' := ?_) ?_ ?_
            rotate_left
            · show Act.put _ (some 57) _ = _
              simp only [Act.put, List.setIfInBounds_toArray, List.set_cons_zero, List.set_cons_succ, i64_w, i32_w]
              rfl
            refine last_ (i := 9) (N := some 58) #[true, true, true, true, true, true, true, true, true, true, false] rfl rfl (by kernel_rfl) (by decide) (fun K hK => ?_)
            refine Kd.R_append_step k38 (w0 := w) (W := wr.drew) w.heap.size (by rfl) (.tmp 49) (.tmp 57) 55 57 (.agg #[.int .i64 0, .int .i64 0]) 16 rfl Try.underlying55 info57 rfl (by decide) (by omega) (.slice A h.length c) h ⟨x, y⟩ [.int .i64 x, .int .i64 y] (fun k => k ≠ w.heap.size) (fun _ => False) rfl rfl (k38_mkM _ _ _ _) (fun _ hk => hk.elim) (fun k (hk : wr.heap.size ≤ k) (e : k = w.heap.size) => by have := HLT.out; omega) (Kd.R_drew HR.out) (below_drew HB.out) HB.out.size (by have := HL6.out; omega) ?_
            intro v1 w3 hr1 hb1 hg1 hat1
            obtain ⟨A1, c1, hv1⟩ := Kd.R_slice hr1
            rw [List.length_append, List.length_singleton] at hv1
            subst hv1
            have HR1 := Aside0.mk hr1
            have HB1 := Aside0.mk hb1
            have hcell3 := (cell_of_blk (after_keep (w2 := wr.drew) HH.out (Kd.R_drew HR.out) hg1)).1
            have hfr3 := (cell_of_blk (after_keep (w2 := wr.drew) HH.out (Kd.R_drew HR.out) hg1)).2
            have HH3 := Aside0.mk (after_keep (w2 := wr.drew) HH.out (Kd.R_drew HR.out) hg1)
            clear hr1 hb1 hg1 hat1
            refine hK.out _ _ ?_
            clear hK K
            refine norm_ (a' := ?_) ?_ ?_
            rotate_left
            · show Act.put _ (some 58) _ = _
              simp only [Act.put, List.setIfInBounds_toArray, List.set_cons_zero, List.set_cons_succ, i64_w, i32_w]
              rfl
            refine last_ (i := 10) (N := none) #[true, true, true, true, true, true, true, true, true, true, true] rfl rfl (by kernel_rfl) (by decide) (fun K hK => ?_)
            refine skip_ (w1 := ?_) (by rfl) rfl ?_ ?_
            rotate_left
            · go_simp
              rfl
            refine hK.out _ _ ?_
            clear hK K
            refine done_ (by kernel_rfl) ?_
            go_wp2
            go_roundw
            case measure => have := HLT0.out; simp [intOf]; omega
            case rel => exact ⟨i + 1, h ++ [⟨x, y⟩], .slice A1 (h.length + 1) c1, by go_num, ⟨by have := HLT0.out; omega⟩, ⟨by have := HL6.out.2; simp; omega⟩, ⟨by rw [← HP.out]; exact HRUN2.out⟩, ⟨by have := heap_setCell_same w3 w.heap.size 0 #[.slice A h.length c] 55 (.slice A1 (h.length + 1) c1) HH3.out; simpa using this⟩, ⟨by (with_reducible repeat (first | apply Kd.R_drewN | apply Kd.R_drew)); exact Kd.R_far (p := ⟨w.heap.size, 0, none⟩) HR1.out (fun k hk => hk) _⟩, ⟨by (with_reducible repeat (first | apply pw_below_drewN | apply below_drew1)); exact HB1.out.setCell (Nat.le_refl _) _⟩⟩
    · have hil : ¬ (i : Int) < l0.length := by omega
      have hd : l0.drop i = [] := List.drop_eq_nil_of_le (by omega)
      have hrun := HRUN.out
      rw [hd, after_run] at hrun
      have HRUN2 := Aside0.mk hrun
      clear hrun hd HRUN hlt
      go_wp2_with (go_at_call 30; go_must (refine (after1_calls w.heap.size A c h _ (cell_of_blk HH.out).1 (Kd.R_reads' HR.out).2.2 HL6.out.1 a1).mono ?_; rintro e w' ⟨rfl, n', rfl⟩))
      go_ret
      exact ⟨by rw [← H.out, ← HRUN2.out]; rfl, pw_below_drewN HB.out _⟩
end Go.Proofs.Ytafjbebbmfihaaa.P
