/- shuffle.Line does what shuffle_Line.f says; no condition. -/
import Derived.Test.YtafjbebbmfihaaaHLineB
import Derived.Outline
namespace Go.Proofs.Ytafjbebbmfihaaa.P
open Go.RowKit Go.Proofs.YtafjbebbmfihaaaW.PrintWords Go.Proofs.YtafjbebbmfihaaaW.PrintLast Go.Proofs.YtafjbebbmfihaaaW.PrintMore
set_option linter.unusedVariables false
set_option linter.unusedSimpArgs false
set_option linter.unusedSectionVars false

set_option maxHeartbeats 8000000 in
set_option maxRecDepth 100000 in
theorem shuffle_Line.calls (k : Nat) (A0 : Option Addr) (c0 : Nat) (l0 : List S38) (a1 : Int) (r1 : List S38) (r2 : Int) (w : World) (hr0 : Kd.C k38 w A0 l0.length l0) (hc0 : l0.length ≤ c0) (h : shuffle_Line.f k l0 a1 = some (r1, r2)) :
    Calls Try.prog 15 #[.slice A0 l0.length c0, .int .i64 a1] w fun e w' => ∃ v0_ : Value, e = .returned (.tuple #[v0_, .int .i64 r2]) ∧ Kd.R k38 38 w' w.heap.size (fun _ => True) v0_ r1 ∧ Below w.heap.size w w' := by
  unfold shuffle_Line.f at h
  by_cases hl : l0.length < 1000000
  case neg => rw [if_neg hl] at h; cases h
  rw [if_pos hl] at h
  have hmf : ∀ (fn : Fn) (first cap : Array Value) (w : World), (Instr.makeFunc fn first cap).run Try.prog w = .ok (.func fn first cap) w := fun _ _ _ _ => rfl
  have hmm := @run_makeMap Try.prog
  have H := Aside0.mk h
  have HL := Aside0.mk hl
  have HC := Aside0.mk hr0
  clear h hl hr0 hc0
  go_enter Try.func15, Try.ntmps15
  go_wp2
  have HS := Aside0.mk (L1.start w a1)
  obtain ⟨pb, hpb⟩ : ∃ pb : Nat, pb = w.heap.size := ⟨_, rfl⟩
  obtain ⟨tk, htk⟩ : ∃ tk, tk = shuffle_Line.take l0 a1 [] [] [] := ⟨_, rfl⟩
  have H2 := Aside0.mk H.out
  rw [← htk] at H2
  have HTK := Aside0.mk htk.symm
  clear htk H hmm
  generalize w.heap.size + 1 + 1 + 1 + 1 = sc at HS ⊢
  generalize w.heap.size + 1 + 1 + 1 = sm at HS ⊢
  generalize w.heap.size + 1 + 1 = xb at HS ⊢
  generalize w.heap.size + 1 = bm at HS ⊢
  go_loopw [24] (fun v24 wr => ∃ (i : Nat) (seen : List Int) (left : List (Int × Int)) (order : List Int) (vo : Value), v24 = .int .i64 (i : Int) ∧ Aside0 (i ≤ l0.length) ∧ Aside0 (shuffle_Line.take (l0.drop i) a1 seen left order = tk) ∧ Aside0 (L1 w wr w.heap.size bm xb sm sc a1 seen left order vo) ∧ Aside0 (left.length ≤ i ∧ order.length ≤ i ∧ ∀ p ∈ left, p.1 ∈ seen)) (fun v24 _ => l0.length - (intOf v24).toNat)
  case atStart => exact ⟨0, [], [], [], .slice none 0 0, rfl, ⟨Nat.zero_le _⟩, HTK, HS, ⟨by simp⟩⟩
  case round =>
    clear HS HTK hpb
    obtain ⟨i, seen, left, order, vo, rfl, HI, HTK, HS, HLN⟩ := hrel
    obtain ⟨A, c, hv⟩ := Kd.R_slice HS.out.ln.ord
    subst hv
    have hi6 : (i : Int) + 1 ≤ 1000001 := by have := HI.out; have := HL.out; omega
    by_cases hlt : i < l0.length
    · have hil : (i : Int) < l0.length := by omega
      have hi0 : (0 : Int) ≤ (i : Int) := by omega
      obtain ⟨ad, e1, hx0, hx1⟩ := at_T38 (Kd.C_below HC.out HS.out.below) (i : Int) hi0 hil
      subst e1
      rw [Int.toNat_natCast] at hx0 hx1
      have htk := HTK.out
      rw [List.drop_eq_getElem_cons hlt, shuffle_Line.take] at htk
      have hrd : rd_T38 l0 (i : Int) = l0[i] := by simp [rd_T38, List.getD, hlt]
      rw [← hrd] at htk
      generalize rd_T38 l0 (i : Int) = p at hx0 hx1 htk
      obtain ⟨x, y⟩ := p
      replace hx0 : wr.cell? (ad.add (i * 2)) = some (.int .i64 x) := hx0
      replace hx1 : wr.cell? ⟨(ad.add (i * 2)).block, (ad.add (i * 2)).off + 1, none⟩ = some (.int .i64 y) := hx1
      replace htk : (if x ∈ seen ∨ x = a1 ∨ y = a1 then none else if x = y then shuffle_Line.take (l0.drop (i + 1)) a1 (seen ++ [x]) left order else shuffle_Line.take (l0.drop (i + 1)) a1 (seen ++ [x]) (left ++ [(x, y)]) (order ++ [x])) = tk := htk
      have HLT := Aside0.mk hlt
      clear hrd hlt HTK
      by_cases hw : x ∈ seen ∨ x = a1 ∨ y = a1
      · rw [if_pos hw] at htk
        have HD := Aside0.mk (decide_eq_true hw)
        subst htk
        clear hw
        go_wp2_with (first | ((with_reducible refine gate_dst (N := 27) rfl ?_); go_must (refine wpList_load38 rfl _ rfl _ rfl x y hx0 hx1 ?_)) | (go_at_call 28; go_must (refine (wrong_calls sc sm w.heap.size seen a1 x y _ (cell_alloc (cell_of_blk HS.out.sc_).1 _) (IMap.alloc HS.out.seen _) (cell_alloc (cell_of_blk HS.out.pb_).1 _)).mono ?_; rintro e w5 ⟨rfl, hb5⟩; rw [HD.out]; have HB5 := Aside0.mk hb5; clear hb5)))
        have hh := H2.out
        simp only [Option.some.injEq, Prod.mk.injEq] at hh
        obtain ⟨rfl, rfl⟩ := hh
        go_ret2
        exact ⟨.slice none 0 0, rfl, Kd.R_nil _ _ _ _ _, below_step (below_alloc HS.out.below _) HB5.out⟩
      · rw [if_neg hw] at htk
        have HD := Aside0.mk (decide_eq_false hw)
        have HNS := Aside0.mk (fun h => hw (.inl h) : x ∉ seen)
        have HTK := Aside0.mk htk
        clear hw htk
        go_upto_region 9 with (first | ((with_reducible refine gate_dst (N := 27) rfl ?_); go_must (refine wpList_load38 rfl _ rfl _ rfl x y hx0 hx1 ?_)) | (go_at_call 28; go_must (refine (wrong_calls sc sm w.heap.size seen a1 x y _ (cell_alloc (cell_of_blk HS.out.sc_).1 _) (IMap.alloc HS.out.seen _) (cell_alloc (cell_of_blk HS.out.pb_).1 _)).mono ?_; rintro e w5 ⟨rfl, hb5⟩; rw [HD.out]; have HB5 := Aside0.mk hb5; clear hb5)))
        have L5 := Aside0.mk (HS.out.step (below_step (below_alloc (Below.refl wr.heap.size wr) _) HB5.out))
        have hbm5 := (HB5.out.block wr.heap.size (by simp)).trans (heap_alloc_new wr _)
        have hm05 := (cells2 hbm5).1
        have hm15 := (cells2 hbm5).2
        have HMB5 := Aside0.mk hbm5
        have HLT5 : Aside0 (wr.heap.size < w5.heap.size) := ⟨(Array.getElem?_eq_some_iff.1 hbm5).1⟩
        have hsc5 := (cell_of_blk L5.out.sc_).1
        clear hbm5 hx0 hx1
        by_cases hxy : x = y
        · have htk := HTK.out
          rw [if_pos hxy] at htk
          have hbe : (x != y) = false := by rw [hxy]; simp
          have HTK2 := Aside0.mk htk
          clear htk HTK hxy
          go_wp2_with (at_mapUpdate; go_must (refine wpList_im_put rfl _ _ _ 45 3 4 rfl Try.underlying45 Try.underlying3 sm (bset seen) rfl L5.out.seen x rfl (.bool true) rfl ?_; intro w6 hM6 hg6; rw [imPut_bset seen x HNS.out] at hM6; have L6 := Aside0.mk (L5.out.put_seen hM6 hg6); have hbm6 := (hg6.block wr.heap.size HLT5.out (some_ne (Nat.ne_of_gt HS.out.seen.lt))).trans HMB5.out; have hm06 := (cells2 hbm6).1; have hm16 := (cells2 hbm6).2; have HMB6 := Aside0.mk hbm6; clear hM6 hg6 hbm6))
          go_roundw
          case measure => have := HLT.out; simp [intOf]; omega
          case rel => exact ⟨i + 1, seen ++ [x], left, order, _, by go_num, ⟨by have := HLT.out; omega⟩, HTK2, L6, ⟨by have := HLN.out.1; omega, by have := HLN.out.2.1; omega, fun p hp => List.mem_append_left _ (HLN.out.2.2 p hp)⟩⟩
        · have htk := HTK.out
          rw [if_neg hxy] at htk
          have hbe : (x != y) = true := by rw [bne_iff_ne]; exact hxy
          have HTK2 := Aside0.mk htk
          have HOL : Aside0 (order.length < 1000000) := ⟨by have := HLN.out.2.1; have := HI.out; have := HL.out; omega⟩
          clear htk HTK hxy
          go_wp2_with (at_mapUpdate; go_must (refine wpList_im_put rfl _ _ _ 45 3 4 rfl Try.underlying45 Try.underlying3 sm (bset seen) rfl L5.out.seen x rfl (.bool true) rfl ?_; intro w6 hM6 hg6; rw [imPut_bset seen x HNS.out] at hM6; have L6 := Aside0.mk (L5.out.put_seen hM6 hg6); have hbm6 := (hg6.block wr.heap.size HLT5.out (some_ne (Nat.ne_of_gt HS.out.seen.lt))).trans HMB5.out; have hm06 := (cells2 hbm6).1; have hm16 := (cells2 hbm6).2; have HMB6 := Aside0.mk hbm6; clear hM6 hg6 hbm6))
          have hx06 := (cells3 L6.out.ln.blk).1
          obtain ⟨w7, hput, hM7, hg7⟩ := IMap.put (P := Try.prog) (IMap.drew L6.out.ln.map) Try.underlying50 Try.underlying3 x (.int .i64 y)
          rw [imPut_lfv left x y (fun p hp e => HNS.out (by rw [← e]; exact HLN.out.2.2 p hp))] at hM7
          have L7 := Aside0.mk (L6.out.put_left hM7 hg7)
          have hbm7 := (hg7.block wr.heap.size (Array.getElem?_eq_some_iff.1 HMB6.out).1 (some_ne (Nat.ne_of_gt HS.out.ln.map.lt))).trans HMB6.out
          have hm07 := (cells2 hbm7).1
          have hx17 := (cells3 L7.out.ln.blk).2.1
          have HM7 := Aside0.mk hM7
          clear hbm7 hM7 hg7
          refine start_ (n := 9) (S := fun w' => w'.cell? ⟨xb, 0, none⟩ = some (.map (some bm)) ∧ w'.cell? ⟨wr.heap.size, 0, none⟩ = some (.int .i64 x) ∧ w'.cell? ⟨wr.heap.size, 1, none⟩ = some (.int .i64 y)) (ds := [8]) #[false, false, false, false, false, false, false, false, false] (by kernel_rfl) rfl rfl ⟨hx06, hm06, hm16⟩ (fun hHeld => ?_)
          refine pure_ (i := 0) (N := some 39) (v := ?_) (a' := ?_) #[true, false, false, false, false, false, false, false, false] rfl rfl (by kernel_rfl) (fun _ _ _ h => h) (Or.inl ⟨by rfl, ?_⟩) ?_ ?_
          rotate_left
          · intro w'
            go_simp
            with_reducible rfl
          rotate_left
          · simp only [Act.put, List.setIfInBounds_toArray, List.set_cons_zero, List.set_cons_succ, i64_w, i32_w]
            rfl
          refine pure_ (i := 1) (N := some 40) (v := ?_) (a' := ?_) #[true, true, false, false, false, false, false, false, false] rfl rfl (by kernel_rfl) (fun _ _ _ h => h) (Or.inl ⟨by rfl, ?_⟩) ?_ ?_
          rotate_left
          · intro w'
            go_simp
            with_reducible rfl
          rotate_left
          · simp only [Act.put, List.setIfInBounds_toArray, List.set_cons_zero, List.set_cons_succ, i64_w, i32_w]
            rfl
          refine pure_ (i := 2) (N := some 41) (v := ?_) (a' := ?_) #[true, true, true, false, false, false, false, false, false] rfl rfl (by kernel_rfl) (fun _ _ _ h => h) (Or.inl ⟨by rfl, ?_⟩) ?_ ?_
          rotate_left
          · intro w'
            go_simp
            with_reducible rfl
          rotate_left
          · simp only [Act.put, List.setIfInBounds_toArray, List.set_cons_zero, List.set_cons_succ, i64_w, i32_w]
            rfl
          refine pure_ (i := 4) (N := some 43) (v := ?_) (a' := ?_) #[true, true, true, false, true, false, false, false, false] rfl rfl (by kernel_rfl) (fun _ _ _ h => h) (Or.inl ⟨by rfl, ?_⟩) ?_ ?_
          rotate_left
          · intro w'
            go_simp
            with_reducible rfl
          rotate_left
          · simp only [Act.put, List.setIfInBounds_toArray, List.set_cons_zero, List.set_cons_succ, i64_w, i32_w]
            rfl
          refine pure_ (i := 6) (N := some 45) (v := ?_) (a' := ?_) #[true, true, true, false, true, false, true, false, false] rfl rfl (by kernel_rfl) (fun _ _ _ h => h) (Or.inl ⟨by rfl, ?_⟩) ?_ ?_
          rotate_left
          · intro w'
            go_simp
            with_reducible rfl
          rotate_left
          · simp only [Act.put, List.setIfInBounds_toArray, List.set_cons_zero, List.set_cons_succ, i64_w, i32_w]
            rfl
          refine take_ (i := 3) (N := some 42) (v := ?_) (a' := ?_) #[true, true, true, true, true, false, true, false, false] rfl rfl (by kernel_rfl) (fun _ _ _ h => h) (Or.inl ⟨by rfl, ?_⟩) hHeld ?_ ?_
          rotate_left
          · rintro w' ⟨s0, s1, s2⟩
            go_simp
            with_reducible rfl
          rotate_left
          · simp only [Act.put, List.setIfInBounds_toArray, List.set_cons_zero, List.set_cons_succ, i64_w, i32_w]
            rfl
          refine take_ (i := 5) (N := some 44) (v := ?_) (a' := ?_) #[true, true, true, true, true, true, true, false, false] rfl rfl (by kernel_rfl) (fun _ _ _ h => h) (Or.inl ⟨by rfl, ?_⟩) hHeld ?_ ?_
          rotate_left
          · rintro w' ⟨s0, s1, s2⟩
            go_simp
            with_reducible rfl
          rotate_left
          · simp only [Act.put, List.setIfInBounds_toArray, List.set_cons_zero, List.set_cons_succ, i64_w, i32_w]
            rfl
          refine take_ (i := 7) (N := some 46) (v := ?_) (a' := ?_) #[true, true, true, true, true, true, true, true, false] rfl rfl (by kernel_rfl) (fun _ _ _ h => h) (Or.inl ⟨by rfl, ?_⟩) hHeld ?_ ?_
          rotate_left
          · rintro w' ⟨s0, s1, s2⟩
            go_simp
            with_reducible rfl
          rotate_left
          · simp only [Act.put, List.setIfInBounds_toArray, List.set_cons_zero, List.set_cons_succ, i64_w, i32_w]
            rfl
          refine last_ (i := 8) (N := none) #[true, true, true, true, true, true, true, true, true] rfl rfl (by kernel_rfl) (by decide) (fun K hK => ?_)
          refine skip_ (w1 := ?_) (by rfl) rfl ?_ ?_
          rotate_left
          · go_simp
            rfl
          refine hK.out _ _ ?_
          clear hK K
          refine done_ (by kernel_rfl) ?_
          go_wp2_with fail
          refine start_ (n := 12) (S := fun w' => w'.cell? ⟨xb, 1, none⟩ = some (.slice A order.length c) ∧ w'.cell? ⟨wr.heap.size, 0, none⟩ = some (.int .i64 x)) (ds := [8, 9, 10, 11]) #[false, false, false, false, false, false, false, false, false, false, false, false] (by kernel_rfl) rfl rfl ⟨hx17, hm07⟩ (fun hHeld => ?_)
          refine pure_ (i := 0) (N := some 47) (v := ?_) (a' := ?_) #[true, false, false, false, false, false, false, false, false, false, false, false] rfl rfl (by kernel_rfl) (fun _ _ _ h => h) (Or.inl ⟨by rfl, ?_⟩) ?_ ?_
          rotate_left
          · intro w'
            go_simp
            with_reducible rfl
          rotate_left
          · simp only [Act.put, List.setIfInBounds_toArray, List.set_cons_zero, List.set_cons_succ, i64_w, i32_w]
            rfl
          refine pure_ (i := 1) (N := some 48) (v := ?_) (a' := ?_) #[true, true, false, false, false, false, false, false, false, false, false, false] rfl rfl (by kernel_rfl) (fun _ _ _ h => h) (Or.inl ⟨by rfl, ?_⟩) ?_ ?_
          rotate_left
          · intro w'
            go_simp
            with_reducible rfl
          rotate_left
          · simp only [Act.put, List.setIfInBounds_toArray, List.set_cons_zero, List.set_cons_succ, i64_w, i32_w]
            rfl
          refine pure_ (i := 2) (N := some 49) (v := ?_) (a' := ?_) #[true, true, true, false, false, false, false, false, false, false, false, false] rfl rfl (by kernel_rfl) (fun _ _ _ h => h) (Or.inl ⟨by rfl, ?_⟩) ?_ ?_
          rotate_left
          · intro w'
            go_simp
            with_reducible rfl
          rotate_left
          · simp only [Act.put, List.setIfInBounds_toArray, List.set_cons_zero, List.set_cons_succ, i64_w, i32_w]
            rfl
          refine pure_ (i := 3) (N := some 50) (v := ?_) (a' := ?_) #[true, true, true, true, false, false, false, false, false, false, false, false] rfl rfl (by kernel_rfl) (fun _ _ _ h => h) (Or.inl ⟨by rfl, ?_⟩) ?_ ?_
          rotate_left
          · intro w'
            go_simp
            with_reducible rfl
          rotate_left
          · simp only [Act.put, List.setIfInBounds_toArray, List.set_cons_zero, List.set_cons_succ, i64_w, i32_w]
            rfl
          refine pure_ (i := 5) (N := some 52) (v := ?_) (a' := ?_) #[true, true, true, true, false, true, false, false, false, false, false, false] rfl rfl (by kernel_rfl) (fun _ _ _ h => h) (Or.inl ⟨by rfl, ?_⟩) ?_ ?_
          rotate_left
          · intro w'
            go_simp
            with_reducible rfl
          rotate_left
          · simp only [Act.put, List.setIfInBounds_toArray, List.set_cons_zero, List.set_cons_succ, i64_w, i32_w]
            rfl
          refine take_ (i := 4) (N := some 51) (v := ?_) (a' := ?_) #[true, true, true, true, true, true, false, false, false, false, false, false] rfl rfl (by kernel_rfl) (fun _ _ _ h => h) (Or.inl ⟨by rfl, ?_⟩) hHeld ?_ ?_
          rotate_left
          · rintro w' ⟨s0, s1⟩
            go_simp
            with_reducible rfl
          rotate_left
          · simp only [Act.put, List.setIfInBounds_toArray, List.set_cons_zero, List.set_cons_succ, i64_w, i32_w]
            rfl
          refine take_ (i := 6) (N := some 53) (v := ?_) (a' := ?_) #[true, true, true, true, true, true, true, false, false, false, false, false] rfl rfl (by kernel_rfl) (fun _ _ _ h => h) (Or.inl ⟨by rfl, ?_⟩) hHeld ?_ ?_
          rotate_left
          · rintro w' ⟨s0, s1⟩
            go_simp
            with_reducible rfl
          rotate_left
          · simp only [Act.put, List.setIfInBounds_toArray, List.set_cons_zero, List.set_cons_succ, i64_w, i32_w]
            rfl
          refine one_ (i := 7) (N := some 54) #[true, true, true, true, true, true, true, true, false, false, false, false] rfl rfl (by kernel_rfl) (by decide) (fun K hK => ?_)
          refine value_ (w1 := ?_) (v := ?_) (by rfl) rfl ?_ ?_
          rotate_left 2
          · go_simp
            constructor
            · rfl
            · rfl
          refine hK.out _ _ ⟨cell_alloc hHeld.1 _, cell_alloc hHeld.2 _⟩ (fun hHeld => ?_)
          clear hK K
          refine norm_ (a' := ?_) ?_ ?_
          rotate_left
          · show Act.put _ (some 54) _ = _
            simp only [Act.put, List.setIfInBounds_toArray, List.set_cons_zero, List.set_cons_succ, i64_w, i32_w]
            rfl
          refine last_ (i := 8) (N := some 55) #[true, true, true, true, true, true, true, true, true, false, false, false] rfl rfl (by kernel_rfl) (by decide) (fun K hK => ?_)
          refine Kd.R_append_step (Kd.int .i64) (w0 := w7) (W := w7.drew) w.heap.size (by rfl) (.tmp 51) (.tmp 54) 27 3 (.int .i64 0) 8 rfl Try.underlying27 info3 rfl (by decide) (by omega) (.slice A order.length c) order x [.int .i64 x] (fun k => k ≠ w.heap.size) (fun _ => False) rfl rfl rfl (fun _ hk => hk.elim) (fun k hk (e : k = w.heap.size) => by have hk2 : w7.heap.size ≤ k := hk; have := L7.out.plt; omega) (Kd.R_drew (ord_own L7.out.ln.ord (fun k hk e => L7.out.po (by rw [hk, e])))) (below_drew (Below.refl _ _)) L7.out.below.size (by have := HOL.out; omega) ?_
          intro v1 w8 hr1 hb1 hg1 hat1
          obtain ⟨A1, c1, hv1⟩ := Kd.R_slice hr1
          rw [List.length_append, List.length_singleton] at hv1
          subst hv1
          have hcx := cells3 (L1.grow L7.out hg1)
          have hcell8 := hcx.2.1
          have hfr8 := hcx.2.2.2.2
          have HR1 := Aside0.mk hr1
          have HG1 := Aside0.mk hg1
          have HAT1 := Aside0.mk hat1
          clear hr1 hb1 hg1 hat1 hcx
          refine hK.out _ _ ?_
          clear hK K
          refine norm_ (a' := ?_) ?_ ?_
          rotate_left
          · show Act.put _ (some 55) _ = _
            simp only [Act.put, List.setIfInBounds_toArray, List.set_cons_zero, List.set_cons_succ, i64_w, i32_w]
            rfl
          refine pure_ (i := 9) (N := some 56) (v := ?_) (a' := ?_) #[true, true, true, true, true, true, true, true, true, true, false, false] rfl rfl (by kernel_rfl) (fun _ _ _ h => h) (Or.inl ⟨by rfl, ?_⟩) ?_ ?_
          rotate_left
          · intro w'
            go_simp
            with_reducible rfl
          rotate_left
          · simp only [Act.put, List.setIfInBounds_toArray, List.set_cons_zero, List.set_cons_succ, i64_w, i32_w]
            rfl
          refine pure_ (i := 10) (N := some 57) (v := ?_) (a' := ?_) #[true, true, true, true, true, true, true, true, true, true, true, false] rfl rfl (by kernel_rfl) (fun _ _ _ h => h) (Or.inl ⟨by rfl, ?_⟩) ?_ ?_
          rotate_left
          · intro w'
            go_simp
            with_reducible rfl
          rotate_left
          · simp only [Act.put, List.setIfInBounds_toArray, List.set_cons_zero, List.set_cons_succ, i64_w, i32_w]
            rfl
          refine last_ (i := 11) (N := none) #[true, true, true, true, true, true, true, true, true, true, true, true] rfl rfl (by kernel_rfl) (by decide) (fun K hK => ?_)
          refine skip_ (w1 := ?_) (by rfl) rfl ?_ ?_
          rotate_left
          · go_simp
            rfl
          refine hK.out _ _ ?_
          clear hK K
          refine done_ (by kernel_rfl) ?_
          go_wp2
          go_roundw
          case measure => have := HLT.out; simp [intOf]; omega
          case rel => exact ⟨i + 1, seen ++ [x], left ++ [(x, y)], order ++ [x], _, by go_num, ⟨by have := HLT.out; omega⟩, HTK2, ⟨L7.out.put_order HR1.out HG1.out HAT1.out⟩, ⟨by have := HLN.out.1; simp; omega, by have := HLN.out.2.1; simp; omega, fun p hp => by
            rcases List.mem_append.1 hp with hp | hp
            · exact List.mem_append_left _ (HLN.out.2.2 p hp)
            · rw [List.mem_singleton.1 hp]; simp⟩⟩
    · have hil : ¬ (i : Int) < l0.length := by omega
      have hd : l0.drop i = [] := List.drop_eq_nil_of_le (by omega)
      have htk := HTK.out
      rw [hd, shuffle_Line.take] at htk
      subst htk
      have hh := H2.out
      replace hh : ((shuffle_Line.free k order left []).bind fun r => (shuffle_Line.circ k a1 order order r.1 r.2).bind fun out => some (out, (0 : Int))) = some (r1, r2) := hh
      obtain ⟨⟨lf, of⟩, hfree, hh⟩ := Option.bind_eq_some_iff.1 hh
      obtain ⟨res, hcirc, hh⟩ := Option.bind_eq_some_iff.1 hh
      simp only [Option.some.injEq, Prod.mk.injEq] at hh
      obtain ⟨hh1, hh2⟩ := hh
      subst hh2
      rw [hh1] at hcirc
      have HFREE := Aside0.mk hfree
      have HCIRC := Aside0.mk hcirc
      have HLEN : Aside0 (of.length + lf.length ≤ 1000000) := ⟨by have := free_len _ _ _ _ _ hfree; have := HLN.out.1; have := HI.out; have := HL.out; simp at *; omega⟩
      have HOL : Aside0 (order.length < 1000000) := ⟨by have := HLN.out.2.1; have := HI.out; have := HL.out; omega⟩
      have HLL : Aside0 (([] : List S38).length + left.length < 2000000) := ⟨by have := HLN.out.1; have := HI.out; have := HL.out; simp; omega⟩
      have HX0 : Aside0 (L2 w wr w.heap.size bm xb a1 left order [] (.slice A order.length c) (.slice none 0 0)) := ⟨⟨HS.out.ln, HS.out.pb_, HS.out.below, HS.out.po⟩⟩
      clear hd hlt hfree hcirc hh1 HTK HS H2 HLN HI
      go_wp2_with (go_at_call 29; go_must (refine (free_calls w.heap.size xb bm k left order [] _ _ (lf, of) _ HX0.out.ln HLL.out HOL.out HFREE.out).mono ?_; rintro e w6 ⟨rfl, vu, hu⟩; have HX1 := Aside0.mk (HX0.out.freed hu); have hx1 := (cells3 HX1.out.ln.blk).2.1; clear hu))
      go_loopw [66] (fun v66 wr => ∃ (j : Nat) (left : List (Int × Int)) (out : List S38) (vu : Value), v66 = .int .i64 (j : Int) ∧ Aside0 (j ≤ order.length) ∧ Aside0 (shuffle_Line.circ k a1 order (order.drop j) left out = some r1) ∧ Aside0 (out.length + left.length ≤ 1000000 + j) ∧ Aside0 (L2 w wr w.heap.size bm xb a1 left order out (.slice A order.length c) vu)) (fun v66 _ => order.length - (intOf v66).toNat)
      case atStart => exact ⟨0, lf, of, vu, rfl, ⟨Nat.zero_le _⟩, HCIRC, HLEN, HX1⟩
      case round =>
        clear HX1 HX0 HCIRC HLEN HFREE HLL hx1 hil hi6
        obtain ⟨j, left, out, vu, rfl, HJ, HCIRC, HLEN, HX⟩ := hrel
        have hj6 : (j : Int) + 1 ≤ 1000001 := by have := HJ.out; have := HOL.out; omega
        by_cases hlt : j < order.length
        · have hjl : (j : Int) < order.length := by omega
          have hj0 : (0 : Int) ≤ (j : Int) := by omega
          obtain ⟨ad, e1, hcb⟩ := Kd.at_int (Kd.R_reads' HX.out.ln.ord).2.2 (j : Int) hj0 hjl
          subst e1
          rw [Int.toNat_natCast] at hcb
          have hp := HCIRC.out
          rw [List.drop_eq_getElem_cons hlt, shuffle_Line.circ] at hp
          have hrd : rd order (j : Int) = order[j] := by simp [rd, List.getD, hlt]
          rw [← hrd] at hp
          obtain ⟨a, ha⟩ : ∃ a, a = rd order (j : Int) := ⟨_, rfl⟩
          rw [← ha] at hcb hp
          have hc0 := (cells3 HX.out.ln.blk).1
          have HLT := Aside0.mk hlt
          clear hrd ha hlt HCIRC
          cases hget : lf_get left a with
          | none =>
            rw [hget] at hp
            have HP2 := Aside0.mk hp
            have HGET := Aside0.mk hget
            clear hp hget
            go_wp2_with (at_lookup; go_must (refine wpList_im_look rfl _ _ 50 3 3 true rfl Try.underlying50 Try.underlying3 (.int .i64 0) zero3 bm (lfv left) rfl HX.out.ln.map a rfl ?_; simp only [if_true, imGet_lfv, HGET.out, Option.map_none, Option.getD_none, Option.isSome_none]))
            go_roundw
            case measure => have := HLT.out; simp [intOf]; omega
            case rel => exact ⟨j + 1, left, out, vu, by go_num, ⟨by have := HLT.out; omega⟩, HP2, ⟨by have := HLEN.out; omega⟩, HX⟩
          | some b =>
            rw [hget] at hp
            have HGET := Aside0.mk hget
            replace hp : ((shuffle_Line.free k order (left.map fun p => if p.2 = a then (p.1, a1) else p) (out ++ [⟨a1, a⟩])).bind fun r => shuffle_Line.circ k a1 order (order.drop (j + 1)) r.1 r.2) = some r1 := hp
            obtain ⟨⟨lf2, of2⟩, hfree2, hcirc2⟩ := Option.bind_eq_some_iff.1 hp
            have HF2 := Aside0.mk hfree2
            have HC2 := Aside0.mk hcirc2
            have HLEN2 : Aside0 (of2.length + lf2.length ≤ 1000000 + (j + 1)) := ⟨by have := free_len _ _ _ _ _ hfree2; have := HLEN.out; simp at *; omega⟩
            have HLE : Aside0 (out.length < 2000000 ∧ (out ++ [(⟨a1, a⟩ : S38)]).length + left.length < 2000000) := ⟨by have := HLEN.out; have := HJ.out; have := HOL.out; simp; omega⟩
            obtain ⟨A2, c2, hv⟩ := Kd.R_slice HX.out.ln.res
            subst hv
            have hx2 := (cells3 HX.out.ln.blk).2.2.1
            have hp0 := (cell_of_blk HX.out.pb_).1
            clear hp hget hfree2 hcirc2
            go_wp2_with (first | (at_lookup; go_must (refine wpList_im_look rfl _ _ 50 3 3 true rfl Try.underlying50 Try.underlying3 (.int .i64 0) zero3 bm (lfv left) rfl HX.out.ln.map a rfl ?_; simp only [if_true, imGet_lfv, HGET.out, Option.map_some, Option.getD_some, Option.isSome_some])) | fail)
            refine start_ (n := 13) (S := fun w' => w'.cell? ⟨xb, 2, none⟩ = some (.slice A2 out.length c2) ∧ w'.cell? ⟨w.heap.size, 0, none⟩ = some (.int .i64 a1)) (ds := [9, 10, 11, 12]) #[false, false, false, false, false, false, false, false, false, false, false, false, false] (by kernel_rfl) rfl rfl ⟨hx2, hp0⟩ (fun hHeld => ?_)
            refine pure_ (i := 0) (N := some 81) (v := ?_) (a' := ?_) #[true, false, false, false, false, false, false, false, false, false, false, false, false] rfl rfl (by kernel_rfl) (fun _ _ _ h => h) (Or.inl ⟨by rfl, ?_⟩) ?_ ?_
            rotate_left
            · intro w'
              go_simp
              with_reducible rfl
            rotate_left
            · simp only [Act.put, List.setIfInBounds_toArray, List.set_cons_zero, List.set_cons_succ, i64_w, i32_w]
              rfl
            refine pure_ (i := 1) (N := some 82) (v := ?_) (a' := ?_) #[true, true, false, false, false, false, false, false, false, false, false, false, false] rfl rfl (by kernel_rfl) (fun _ _ _ h => h) (Or.inl ⟨by rfl, ?_⟩) ?_ ?_
            rotate_left
            · intro w'
              go_simp
              with_reducible rfl
            rotate_left
            · simp only [Act.put, List.setIfInBounds_toArray, List.set_cons_zero, List.set_cons_succ, i64_w, i32_w]
              rfl
            refine pure_ (i := 2) (N := some 83) (v := ?_) (a' := ?_) #[true, true, true, false, false, false, false, false, false, false, false, false, false] rfl rfl (by kernel_rfl) (fun _ _ _ h => h) (Or.inl ⟨by rfl, ?_⟩) ?_ ?_
            rotate_left
            · intro w'
              go_simp
              with_reducible rfl
            rotate_left
            · simp only [Act.put, List.setIfInBounds_toArray, List.set_cons_zero, List.set_cons_succ, i64_w, i32_w]
              rfl
            refine pure_ (i := 3) (N := some 84) (v := ?_) (a' := ?_) #[true, true, true, true, false, false, false, false, false, false, false, false, false] rfl rfl (by kernel_rfl) (fun _ _ _ h => h) (Or.inl ⟨by rfl, ?_⟩) ?_ ?_
            rotate_left
            · intro w'
              go_simp
              with_reducible rfl
            rotate_left
            · simp only [Act.put, List.setIfInBounds_toArray, List.set_cons_zero, List.set_cons_succ, i64_w, i32_w]
              rfl
            refine pure_ (i := 6) (N := some 87) (v := ?_) (a' := ?_) #[true, true, true, true, false, false, true, false, false, false, false, false, false] rfl rfl (by kernel_rfl) (fun _ _ _ h => h) (Or.inl ⟨by rfl, ?_⟩) ?_ ?_
            rotate_left
            · intro w'
              go_simp
              with_reducible rfl
            rotate_left
            · simp only [Act.put, List.setIfInBounds_toArray, List.set_cons_zero, List.set_cons_succ, i64_w, i32_w]
              rfl
            refine take_ (i := 4) (N := some 85) (v := ?_) (a' := ?_) #[true, true, true, true, true, false, true, false, false, false, false, false, false] rfl rfl (by kernel_rfl) (fun _ _ _ h => h) (Or.inl ⟨by rfl, ?_⟩) hHeld ?_ ?_
            rotate_left
            · rintro w' ⟨s0, s1⟩
              go_simp
              with_reducible rfl
            rotate_left
            · simp only [Act.put, List.setIfInBounds_toArray, List.set_cons_zero, List.set_cons_succ, i64_w, i32_w]
              rfl
            refine take_ (i := 5) (N := some 86) (v := ?_) (a' := ?_) #[true, true, true, true, true, true, true, false, false, false, false, false, false] rfl rfl (by kernel_rfl) (fun _ _ _ h => h) (Or.inl ⟨by rfl, ?_⟩) hHeld ?_ ?_
            rotate_left
            · rintro w' ⟨s0, s1⟩
              go_simp
              with_reducible rfl
            rotate_left
            · simp only [Act.put, List.setIfInBounds_toArray, List.set_cons_zero, List.set_cons_succ, i64_w, i32_w]
              rfl
            refine pure_ (i := 7) (N := some 88) (v := ?_) (a' := ?_) #[true, true, true, true, true, true, true, true, false, false, false, false, false] rfl rfl (by kernel_rfl) (fun _ _ _ h => h) (Or.inl ⟨by rfl, ?_⟩) ?_ ?_
            rotate_left
            · intro w'
              go_simp
              with_reducible rfl
            rotate_left
            · simp only [Act.put, List.setIfInBounds_toArray, List.set_cons_zero, List.set_cons_succ, i64_w, i32_w]
              rfl
            refine one_ (i := 8) (N := some 89) #[true, true, true, true, true, true, true, true, true, false, false, false, false] rfl rfl (by kernel_rfl) (by decide) (fun K hK => ?_)
            refine value_ (w1 := ?_) (v := ?_) (by rfl) rfl ?_ ?_
            rotate_left 2
            · go_simp
              constructor
              · rfl
              · rfl
            refine hK.out _ _ ⟨cell_alloc hHeld.1 _, cell_alloc hHeld.2 _⟩ (fun hHeld => ?_)
            clear hK K
            refine norm_ (a' := ?_) ?_ ?_
            rotate_left
            · show Act.put _ (some 89) _ = _
              simp only [Act.put, List.setIfInBounds_toArray, List.set_cons_zero, List.set_cons_succ, i64_w, i32_w]
              rfl
            refine last_ (i := 9) (N := some 90) #[true, true, true, true, true, true, true, true, true, true, false, false, false] rfl rfl (by kernel_rfl) (by decide) (fun K hK => ?_)
            refine Kd.R_append_step k38 (w0 := wr) (W := wr.drew) w.heap.size (by rfl) (.tmp 85) (.tmp 89) 29 38 (.agg #[.int .i64 0, .int .i64 0]) 16 rfl Try.underlying29 info38 rfl (by decide) (by omega) (.slice A2 out.length c2) out ⟨a1, a⟩ [.int .i64 a1, .int .i64 a] (fun _ => True) (fun _ => False) rfl rfl (k38_mkM _ _ _ _) (fun _ hk => hk.elim) (fun _ _ => trivial) (Kd.R_drew HX.out.ln.res) (below_drew (Below.refl _ _)) HX.out.below.size (by have := HLE.out; omega) ?_
            intro v1 w8 hr1 hb1 hg1 hat1
            obtain ⟨A3, c3, hv1⟩ := Kd.R_slice hr1
            rw [List.length_append, List.length_singleton] at hv1
            subst hv1
            have hgw := HX.out.ln.grow hg1
            have hcx := cells3 hgw.1
            have hcell8 := hcx.2.2.1
            have hmap8 := hcx.1
            have hfr8 := hcx.2.2.2.1
            have HR1 := Aside0.mk hr1
            have HG1 := Aside0.mk hg1
            clear hr1 hb1 hg1 hat1 hcx hgw
            refine hK.out _ _ ?_
            clear hK K
            refine norm_ (a' := ?_) ?_ ?_
            rotate_left
            · show Act.put _ (some 90) _ = _
              simp only [Act.put, List.setIfInBounds_toArray, List.set_cons_zero, List.set_cons_succ, i64_w, i32_w]
              rfl
            refine pure_ (i := 10) (N := some 91) (v := ?_) (a' := ?_) #[true, true, true, true, true, true, true, true, true, true, true, false, false] rfl rfl (by kernel_rfl) (fun _ _ _ h => h) (Or.inl ⟨by rfl, ?_⟩) ?_ ?_
            rotate_left
            · intro w'
              go_simp
              with_reducible rfl
            rotate_left
            · simp only [Act.put, List.setIfInBounds_toArray, List.set_cons_zero, List.set_cons_succ, i64_w, i32_w]
              rfl
            refine pure_ (i := 11) (N := some 92) (v := ?_) (a' := ?_) #[true, true, true, true, true, true, true, true, true, true, true, true, false] rfl rfl (by kernel_rfl) (fun _ _ _ h => h) (Or.inl ⟨by rfl, ?_⟩) ?_ ?_
            rotate_left
            · intro w'
              go_simp
              with_reducible rfl
            rotate_left
            · simp only [Act.put, List.setIfInBounds_toArray, List.set_cons_zero, List.set_cons_succ, i64_w, i32_w]
              rfl
            refine last_ (i := 12) (N := none) #[true, true, true, true, true, true, true, true, true, true, true, true, true] rfl rfl (by kernel_rfl) (by decide) (fun K hK => ?_)
            refine skip_ (w1 := ?_) (by rfl) rfl ?_ ?_
            rotate_left
            · go_simp
              rfl
            refine hK.out _ _ ?_
            clear hK K
            refine done_ (by kernel_rfl) ?_
            have HX2 := Aside0.mk (HX.out.push HR1.out HG1.out)
            go_wp2_with (at_range; go_must (refine im_range_any _ rfl _ 50 3 3 rfl Try.underlying50 bm (lfv left) rfl HX2.out.ln.map ?_; intro bn r w9 hR hb9 hr9; have HRI := Aside0.mk hR; have HX3 := Aside0.mk (HX2.out.step hb9); have HR9 : Aside0 (w.heap.size ≤ r) := ⟨Nat.le_trans HX2.out.below.size hr9⟩; clear hR hb9 hr9))
            go_frame
            go_loopw [16] (fun v16 wr => ∃ (cur : List (Int × Int)) (seen : List Nat), Aside0 (RIt wr r bm (lfv cur) bn seen) ∧ Aside0 (cur.length = left.length ∧ ∀ (j : Nat) (h : j < cur.length) (h' : j < left.length) (hb : j < bn.length), cur[j] = if bn[j] ∈ seen then turn a a1 left[j] else left[j]) ∧ Aside0 (L2 w wr w.heap.size bm xb a1 cur order (out ++ [⟨a1, a⟩]) (.slice (some ad) order.length c) (.slice A3 (out.length + 1) c3))) (fun _ wr => unseen bn (seenOf wr r))
            case atStart => exact ⟨left, [], HRI, ⟨rfl, fun j h h' hb => by simp⟩, HX3⟩
            case round =>
              clear HRI HX3 HX2 HR1 HG1 hcell8 hmap8 hfr8 hHeld
              obtain ⟨cur, seen, HRI, HCU, HX3⟩ := hrel
              go_wp2_with (at_next; go_must (refine wpList_im_next _ rfl _ rfl r bm (lfv cur) bn seen rfl HRI.out ?_ ?_))
              · intro hall
                have hcur : cur = left.map fun p => if p.2 = a then (p.1, a1) else p := by
                  apply List.ext_getElem
                  · rw [List.length_map]; exact HCU.out.1
                  · intro i h1 h2
                    rw [List.length_map] at h2
                    have hib : i < bn.length := by rw [HRI.out.lens.1, lfv_length]; exact h1
                    rw [HCU.out.2 i h1 h2 hib, if_pos (hall _ (List.getElem_mem hib)), List.getElem_map]
                    rfl
                have HX4 : Aside0 (L2 w wr w.heap.size bm xb a1 (left.map fun p => if p.2 = a then (p.1, a1) else p) order (out ++ [⟨a1, a⟩]) (.slice (some ad) order.length c) (.slice A3 (out.length + 1) c3)) := ⟨by rw [← hcur]; exact HX3.out⟩
                clear hall hcur HX3 HCU HRI
                go_wp2_with (go_at_call 29; go_must (refine (free_calls w.heap.size xb bm k _ order (out ++ [⟨a1, a⟩]) _ _ (lf2, of2) _ HX4.out.ln (by rw [List.length_map]; exact HLE.out.2) HOL.out HF2.out).mono ?_; rintro e w10 ⟨rfl, vu2, hu⟩; have HX5 := Aside0.mk (HX4.out.freed hu); clear hu))
                go_roundw
                case measure => have := HLT.out; simp [intOf]; omega
                case rel => exact ⟨j + 1, lf2, of2, vu2, by go_num, ⟨by have := HLT.out; omega⟩, HC2, HLEN2, HX5⟩
              · intro j3 hj3 hb3 w10 hns hr1 hen hgr hsz
                have hjl3 : j3 < cur.length := by rwa [lfv_length] at hj3
                have hjl4 : j3 < left.length := by rw [← HCU.out.1]; exact hjl3
                have e := lfv_at cur j3 hj3
                have hcl := HCU.out.2 j3 hjl3 hjl4 hb3
                rw [if_neg hns] at hcl
                have hX10 := HX3.out.turn hr1.map_ hgr (.inr ⟨HR9.out, RIt.no_cells HRI.out⟩)
                have HX10 := Aside0.mk hX10
                have hRd : RIt w10.drew r bm (lfv cur) bn (seen ++ [bn[j3]]) := hr1.move rfl rfl
                obtain ⟨w11, hput, hR11, hg11⟩ := hRd.put (P := Try.prog) Try.underlying50 Try.underlying3 j3 hj3 (.int .i64 a1)
                rw [e] at hen hput hR11 ⊢
                obtain ⟨⟨px, py⟩, hpp⟩ : ∃ p, p = cur[j3] := ⟨_, rfl⟩
                have h1 : (cur[j3]).1 = px := by rw [← hpp]
                have h2 : (cur[j3]).2 = py := by rw [← hpp]
                simp only [h1, h2] at hen hput hR11 ⊢
                rw [lfv_set] at hR11
                have hy0 := (cells3 hX10.ln.blk).1
                have hq0 := (cell_of_blk hX10.pb_).1
                have HR10 := Aside0.mk hr1
                have HR11 := Aside0.mk hR11
                have HX11 : Aside0 (L2 w w11 w.heap.size bm xb a1 (cur.set j3 (px, a1)) order (out ++ [⟨a1, a⟩]) (.slice (some ad) order.length c) (.slice A3 (out.length + 1) c3)) := ⟨(hX10.step (below_drew (Below.refl _ _))).turn hR11.map_ hg11 (.inl rfl)⟩
                have HNS := Aside0.mk hns
                have HPP := Aside0.mk hpp
                have HCL := Aside0.mk hcl
                have HBM := Aside0.mk (List.getElem_mem hb3)
                clear hX10 hRd hR11 hg11 hr1 hgr hsz hns hpp h1 h2 hcl e
                have HST : Aside0 (∀ (i : Nat) (h : i < cur.length) (h' : i < left.length) (hb : i < bn.length), i ≠ j3 → cur[i] = if bn[i] ∈ seen ++ [bn[j3]] then turn a a1 left[i] else left[i]) := ⟨fun i h h' hb hne => by
                  rw [HCU.out.2 i h h' hb]
                  have hbi : bn[i] ≠ bn[j3] := fun e => hne ((List.getElem_inj (h₀ := hb) (h₁ := hb3) HRI.out.lens.2).1 e)
                  by_cases c : bn[i] ∈ seen
                  · rw [if_pos c, if_pos (List.mem_append_left _ c)]
                  · rw [if_neg c, if_neg (fun h => (List.mem_append.1 h).elim c (fun h => hbi (List.mem_singleton.1 h)))]⟩
                by_cases hpa : py = a
                · have hbe : (py == a) = true := by rw [hpa]; simp
                  have HPA := Aside0.mk hpa
                  clear hpa
                  go_wp2_with fail
                  refine start_ (n := 7) (S := fun w' => w'.cell? ⟨xb, 0, none⟩ = some (.map (some bm)) ∧ w'.cell? ⟨w.heap.size, 0, none⟩ = some (.int .i64 a1)) (ds := [6]) #[false, false, false, false, false, false, false] (by kernel_rfl) rfl rfl ⟨hy0, hq0⟩ (fun hHeld => ?_)
                  refine pure_ (i := 0) (N := some 106) (v := ?_) (a' := ?_) #[true, false, false, false, false, false, false] rfl rfl (by kernel_rfl) (fun _ _ _ h => h) (Or.inl ⟨by rfl, ?_⟩) ?_ ?_
                  rotate_left
                  · intro w'
                    go_simp
                    with_reducible rfl
                  rotate_left
                  · simp only [Act.put, List.setIfInBounds_toArray, List.set_cons_zero, List.set_cons_succ, i64_w, i32_w]
                    rfl
                  refine pure_ (i := 1) (N := some 107) (v := ?_) (a' := ?_) #[true, true, false, false, false, false, false] rfl rfl (by kernel_rfl) (fun _ _ _ h => h) (Or.inl ⟨by rfl, ?_⟩) ?_ ?_
                  rotate_left
                  · intro w'
                    go_simp
                    with_reducible rfl
                  rotate_left
                  · simp only [Act.put, List.setIfInBounds_toArray, List.set_cons_zero, List.set_cons_succ, i64_w, i32_w]
                    rfl
                  refine pure_ (i := 2) (N := some 108) (v := ?_) (a' := ?_) #[true, true, true, false, false, false, false] rfl rfl (by kernel_rfl) (fun _ _ _ h => h) (Or.inl ⟨by rfl, ?_⟩) ?_ ?_
                  rotate_left
                  · intro w'
                    go_simp
                    with_reducible rfl
                  rotate_left
                  · simp only [Act.put, List.setIfInBounds_toArray, List.set_cons_zero, List.set_cons_succ, i64_w, i32_w]
                    rfl
                  refine pure_ (i := 4) (N := some 110) (v := ?_) (a' := ?_) #[true, true, true, false, true, false, false] rfl rfl (by kernel_rfl) (fun _ _ _ h => h) (Or.inl ⟨by rfl, ?_⟩) ?_ ?_
                  rotate_left
                  · intro w'
                    go_simp
                    with_reducible rfl
                  rotate_left
                  · simp only [Act.put, List.setIfInBounds_toArray, List.set_cons_zero, List.set_cons_succ, i64_w, i32_w]
                    rfl
                  refine take_ (i := 3) (N := some 109) (v := ?_) (a' := ?_) #[true, true, true, true, true, false, false] rfl rfl (by kernel_rfl) (fun _ _ _ h => h) (Or.inl ⟨by rfl, ?_⟩) hHeld ?_ ?_
                  rotate_left
                  · rintro w' ⟨s0, s1⟩
                    go_simp
                    with_reducible rfl
                  rotate_left
                  · simp only [Act.put, List.setIfInBounds_toArray, List.set_cons_zero, List.set_cons_succ, i64_w, i32_w]
                    rfl
                  refine take_ (i := 5) (N := some 111) (v := ?_) (a' := ?_) #[true, true, true, true, true, true, false] rfl rfl (by kernel_rfl) (fun _ _ _ h => h) (Or.inl ⟨by rfl, ?_⟩) hHeld ?_ ?_
                  rotate_left
                  · rintro w' ⟨s0, s1⟩
                    go_simp
                    with_reducible rfl
                  rotate_left
                  · simp only [Act.put, List.setIfInBounds_toArray, List.set_cons_zero, List.set_cons_succ, i64_w, i32_w]
                    rfl
                  refine last_ (i := 6) (N := none) #[true, true, true, true, true, true, true] rfl rfl (by kernel_rfl) (by decide) (fun K hK => ?_)
                  refine skip_ (w1 := ?_) (by rfl) rfl ?_ ?_
                  rotate_left
                  · go_simp
                    rfl
                  refine hK.out _ _ ?_
                  clear hK K
                  refine done_ (by kernel_rfl) ?_
                  go_wp2
                  go_roundw
                  case measure => rw [seenOf_eq HR11.out, seenOf_eq HRI.out]; exact unseen_lt HBM.out HNS.out
                  case rel => exact ⟨cur.set j3 (px, a1), seen ++ [bn[j3]], ⟨HR11.out.move rfl rfl⟩, ⟨by rw [List.length_set]; exact HCU.out.1, fun i h h' hb => by
                    rw [List.length_set] at h
                    rw [List.getElem_set]
                    by_cases c : j3 = i
                    · subst c
                      rw [if_pos rfl, if_pos (by simp), ← HCL.out, ← HPP.out]
                      unfold turn
                      rw [if_pos HPA.out]
                    · rw [if_neg c]
                      exact HST.out i h h' hb (Ne.symm c)⟩, ⟨HX11.out.step (Below.refl _ _)⟩⟩
                · have hbe : (py == a) = false := by rw [beq_eq_false_iff_ne]; exact hpa
                  have HPA := Aside0.mk hpa
                  clear hpa
                  go_wp2
                  go_roundw
                  case measure => rw [seenOf_eq HR10.out, seenOf_eq HRI.out]; exact unseen_lt HBM.out HNS.out
                  case rel => exact ⟨cur, seen ++ [bn[j3]], HR10, ⟨HCU.out.1, fun i h h' hb => by
                    by_cases c : j3 = i
                    · subst c
                      rw [if_pos (by simp), ← HCL.out, ← HPP.out]
                      unfold turn
                      rw [if_neg HPA.out]
                    · exact HST.out i h h' hb (Ne.symm c)⟩, HX10⟩
        · have hjl : ¬ (j : Int) < order.length := by omega
          have hd : order.drop j = [] := List.drop_eq_nil_of_le (by omega)
          have hp := HCIRC.out
          rw [hd, shuffle_Line.circ, Option.some.injEq] at hp
          subst hp
          have hx2 := (cells3 HX.out.ln.blk).2.2.1
          clear hd hlt HCIRC
          go_wp2
          go_ret2
          exact ⟨vu, rfl, HX.out.ln.res, HX.out.below⟩
end Go.Proofs.Ytafjbebbmfihaaa.P
