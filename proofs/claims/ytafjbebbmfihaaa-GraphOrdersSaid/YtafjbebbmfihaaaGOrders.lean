/- ferrulelaw11.GraphOrders answers true, in plain Lean; no condition. -/
import Derived.Test.YtafjbebbmfihaaaGDomsF
import Derived.Test.YtafjbebbmfihaaaGBits
import Derived.Test.YtafjbebbmfihaaaHOrders
namespace Go.Proofs.Ytafjbebbmfihaaa.P
open Go.RowKit Go.Proofs.YtafjbebbmfihaaaW.PrintWords Go.Proofs.YtafjbebbmfihaaaW.PrintLast Go.Proofs.YtafjbebbmfihaaaW.PrintMore
set_option linter.unusedVariables false
set_option linter.unusedSimpArgs false
set_option linter.unusedSectionVars false

theorem cnt_none (N : Nat) : cnt (fun j : Nat => (j : Int) ∈ ([] : List Int)) N = 0 := by
  induction N with
  | zero => rfl
  | succ N ih => simp only [cnt]; rw [ih]; simp
theorem cnt_list {N : Nat} : ∀ l : List Int, l.Nodup → (∀ x ∈ l, 0 ≤ x ∧ x < N) → cnt (fun j : Nat => (j : Int) ∈ l) N = l.length
  | [], _, _ => cnt_none N
  | a :: l, hd, hr => by
    have ih := cnt_list l (List.nodup_cons.1 hd).2 (fun x hx => hr x (List.mem_cons_of_mem _ hx))
    obtain ⟨a0, a1⟩ := hr a List.mem_cons_self
    have haa : ((a.toNat : Nat) : Int) = a := Int.toNat_of_nonneg a0
    rw [cnt_one (fun j : Nat => (j : Int) ∈ l) (fun j : Nat => (j : Int) ∈ a :: l) a.toNat (by rw [haa]; exact (List.nodup_cons.1 hd).1) (fun j => by
      rw [List.mem_cons]
      constructor
      · rintro (h | h)
        · exact .inr (by omega)
        · exact .inl h
      · rintro (h | h)
        · exact .inr h
        · exact .inl (by omega)) N, ih, if_pos (by omega)]
    rfl
section
variable {N : Nat} {ts : List (List Int)} {t order near : List Int}
variable (hN : N ≤ 32) (hnd : order.Nodup) (hmem : ∀ v, v ∈ order ↔ v ∈ t) (hrg : ∀ v : Int, v ∈ t → 0 ≤ v ∧ v < N) (hD : DomsIs (N : Int) ts N t order near)
include hN hnd hmem hrg hD
set_option maxHeartbeats 1000000 in
theorem orders_l1 (x8 : List Int) (h8 : x8.length = N) (hp : ∀ (j : Nat) (h : j < order.length), rd x8 order[j] = j + 1) :
    ∀ (d i : Nat), d = N - i → i ≤ N → Tot (fun k => ferrulelaw11_GraphOrders.l1 k (N : Int) order (rchd t N) near x8 ((cnt (fun j : Nat => (j : Int) ∈ t) i : Nat) : Int) (i : Int)) true := by
  have hl := rchd_length t N
  have hnl := hD.len
  intro d
  induction d with
  | zero =>
    intro i hd hi
    have e : i = N := by omega
    subst e
    have hc : cnt (fun j : Nat => (j : Int) ∈ t) i = order.length := by
      rw [cnt_congr (q := fun j : Nat => (j : Int) ∈ order) i (fun j _ => (hmem j).symm)]
      exact cnt_list order hnd (fun x hx => hrg x ((hmem x).1 hx))
    refine (Tot.pure _).step (fun k => ?_)
    rw [ferrulelaw11_GraphOrders.l1, if_neg (by omega), hc]
    simp
  | succ d ih =>
    intro i hd hi
    have hiN : i < N := by omega
    have hri : rdOf false (rchd t N) (i : Int) = decide ((i : Int) ∈ t) := rchd_rd hiN
    have ih := ih (i + 1) (by omega) (by omega)
    have hcl := cnt_le (fun j : Nat => (j : Int) ∈ t) i
    by_cases c : (i : Int) ∈ t
    · have e : cnt (fun j : Nat => (j : Int) ∈ t) (i + 1) = cnt (fun j : Nat => (j : Int) ∈ t) i + 1 := by
        show _ + (if (i : Int) ∈ t then 1 else 0) = _
        rw [if_pos c]
      rw [e] at ih
      refine ih.step (fun k => ?_)
      rw [ferrulelaw11_GraphOrders.l1, if_pos (by omega), if_pos (by omega), if_pos (by omega), hri, if_pos (decide_eq_true c)]
      by_cases z : (i : Int) > 0
      · obtain ⟨d0, d1, a, b, ha, hb, hab, ea, eb⟩ := hD.some_ (i : Int) c (by omega)
        have dr := hrg _ d1
        have pa := hp a ha
        have pb := hp b hb
        rw [ea] at pa
        rw [eb] at pb
        rw [if_pos z, if_pos (by omega)]
        generalize rd near (i : Int) = y at d0 d1 ea dr pa
        rw [if_neg (by omega), if_pos d0, if_pos (by omega), if_pos (by omega), pa, pb, if_neg (by omega), w64n _ (by omega), w64n _ (by omega)]
      · rw [if_neg z, w64n _ (by omega), w64n _ (by omega)]
    · have e : cnt (fun j : Nat => (j : Int) ∈ t) (i + 1) = cnt (fun j : Nat => (j : Int) ∈ t) i := by
        show _ + (if (i : Int) ∈ t then 1 else 0) = _
        rw [if_neg c]
        rfl
      rw [e] at ih
      have hm := hD.none_ (i : Int) (by omega) (by omega) (.inr c)
      refine ih.step (fun k => ?_)
      rw [ferrulelaw11_GraphOrders.l1, if_pos (by omega), if_pos (by omega), if_pos (by omega), hri, if_neg (by simpa using c), if_pos (by omega), if_pos hm, w64n _ (by omega)]
set_option maxHeartbeats 1000000 in
theorem orders_l0 (hol : order.length ≤ N) : ∀ (d i : Nat) (x8 : List Int), d = order.length - i → i ≤ order.length → x8.length = N → (∀ (j : Nat) (h : j < order.length), j < i → rd x8 order[j] = j + 1) → (∀ v : Int, 0 ≤ v → v < N → v ∉ order.take i → rd x8 v = 0) →
    Tot (fun k => ferrulelaw11_GraphOrders.l0 k (N : Int) order (rchd t N) near x8 0 (i : Int)) true := by
  have hl := rchd_length t N
  intro d
  induction d with
  | zero =>
    intro i x8 hd hi h8 hp hz
    have e : i = order.length := by omega
    subst e
    have h1 := orders_l1 hN hnd hmem hrg hD x8 h8 (fun j h => hp j h h) N 0 (by omega) (Nat.zero_le _)
    refine h1.step (fun k => ?_)
    rw [ferrulelaw11_GraphOrders.l0, if_neg (by omega)]
    rfl
  | succ d ih =>
    intro i x8 hd hi h8 hp hz
    have hlt : i < order.length := by omega
    have hr := rd_at hlt
    have hbt : order[i] ∈ t := (hmem _).1 (List.getElem_mem hlt)
    obtain ⟨b0, b1⟩ := hrg _ hbt
    have hnt : order[i] ∉ order.take i := by
      intro h
      obtain ⟨j, hj, e⟩ := List.mem_take_iff_getElem.1 h
      have := (List.getElem_inj (i := j) (j := i) hnd).1 e
      omega
    have h0 := hz _ b0 b1 hnt
    have hrt : rdOf false (rchd t N) order[i] = true := by
      have := rchd_rd (t := t) (N := N) (j := (order[i]).toNat) (by omega)
      rw [Int.toNat_of_nonneg b0] at this
      rw [this]
      exact decide_eq_true hbt
    have hset := fun v (v0 : 0 ≤ v) (v1 : v < (N : Int)) => rd_set (l := x8) (c := order[i]) (x := ((i + 1 : Nat) : Int)) b0 (by rw [h8]; exact b1) v0 (by rw [h8]; exact v1)
    have ih := ih (i + 1) (x8.set (order[i]).toNat ((i + 1 : Nat) : Int)) (by omega) (by omega) (by rw [List.length_set]; exact h8) (fun j h hj => by
        have hjr := hrg _ ((hmem _).1 (List.getElem_mem h))
        rw [hset _ hjr.1 hjr.2]
        by_cases e : j = i
        · subst e; rw [if_pos rfl]; omega
        · rw [if_neg (fun e2 => e ((List.getElem_inj hnd).1 e2)), hp j h (by omega)]) (fun v v0 v1 hv => by
        rw [take_succ_mem hlt] at hv
        rw [hset v v0 v1, if_neg (fun e => hv (.inr e)), hz v v0 v1 (fun h => hv (.inl h))])
    generalize order[i] = b at hr hbt b0 b1 h0 hrt ih
    refine ih.step (fun k => ?_)
    rw [ferrulelaw11_GraphOrders.l0, if_pos (by omega), if_pos (by omega), hr, if_neg (by omega), if_neg (by omega), if_pos b0, if_pos (by omega), if_pos h0, if_pos (by omega), if_pos hrt, w64n _ (by omega)]
end
theorem GraphOrders_pure (a0 : Int) (ts : List (List Int)) (hl : ∀ i, (rd_L1 ts i).length < 4611686018427387904) (hl0 : ts.length < 4611686018427387904) : ∃ k, ferrulelaw11_GraphOrders.f k a0 ts = some true := by
  refine Tot.get (f := fun k => ferrulelaw11_GraphOrders.f k a0 ts) ?_
  obtain ⟨b, hb, hb2⟩ := few_tot ts hl hl0
  obtain ⟨N, hN⟩ : ∃ N : Nat, (N : Int) = wrap64 (1 + (Go.bits .and .i64 a0 31)) ∧ 0 < N ∧ N ≤ 32 := by
    rw [i64_and31, w64 (by omega) (by omega)]
    exact ⟨(1 + a0 % 32).toNat, by omega, by omega, by omega⟩
  obtain ⟨hN, h0, h32⟩ := hN
  cases b with
  | false =>
    refine (Tot.bind (b := fun k t107 => if t107 = true then _ else some true) hb (Tot.neg (by decide) (Tot.pure _))).congr (fun k => rfl)
  | true =>
    obtain ⟨hlen, hts⟩ := hb2 rfl
    have hts6 : ∀ i, (rd_L1 ts i).length < 1000000 := fun i => by have := hts i; omega
    obtain ⟨t, o, hw, hW⟩ := walk_tot (n := (N : Int)) (ts := ts) (N := N) rfl (by omega) h0 hts6
    have hr := reach_tot (n := (N : Int)) (N := N) rfl (by omega) hw
    obtain ⟨near, hdm, hD⟩ := doms_tot (n := (N : Int)) rfl (by omega) h0 hts6 hw hW
    have hnd : ((o ++ [0]).reverse).Nodup := nodup_rev hW.ond
    have hmem : ∀ v, v ∈ (o ++ [0]).reverse ↔ v ∈ t := fun v => by rw [List.mem_reverse, hW.mem, List.mem_append, List.mem_singleton]
    have hol := nodup_le _ hnd (fun v hv => hW.rg v ((hmem v).1 hv))
    have ho := order_tot (n := (N : Int)) (ts := ts) (t := t) (o := o ++ [0]) (by rw [List.length_reverse] at hol; omega) hw
    have hhead : rd (o ++ [0]).reverse 0 = 0 := by simp [rd, List.getD]
    have hlo : 0 < ((o ++ [0]).reverse).length := by simp
    generalize (o ++ [0]).reverse = order at hD hnd hmem hol ho hhead hlo
    have hR := rchd_length t N
    have hnl := hD.len
    have h00 := hD.none_ 0 (by omega) (by omega) (.inl rfl)
    have hl0' := orders_l0 h32 hnd hmem hW.rg hD hol order.length 0 (List.replicate N 0) (by omega) (Nat.zero_le _) (by simp) (fun j h hj => by omega) (fun v v0 v1 _ => by
      have : v.toNat < N := by omega
      simp [rd, List.getD, this])
    have hj0 : Tot (fun K => ferrulelaw11_GraphOrders.j0 K (N : Int) order (rchd t N) near false) true := by
      refine hl0'.step (fun K => ?_)
      rw [ferrulelaw11_GraphOrders.j0, if_neg (by decide), if_pos (by omega), if_pos (by omega), Int.toNat_natCast]
      rfl
    unfold ferrulelaw11_GraphOrders.f
    rw [← hN]
    refine Tot.bind (b := fun k t107 => if t107 = true then _ else some true) hb (Tot.pos rfl ?_)
    refine Tot.bind (b := fun k t363 => ((graph_Reach.f k (N : Int) ts).bind fun t366 => _)) ho ?_
    refine Tot.bind (b := fun k t366 => ((graph_Doms.f k (N : Int) ts).bind fun t369 => _)) hr ?_
    refine Tot.bind (b := fun k t369 => _) hdm ?_
    refine hj0.congr (fun K => ?_)
    rw [if_neg (by omega), if_pos (by omega), if_pos hhead, if_pos (by omega), if_pos (by omega), if_pos (by omega), h00]
    rfl
end Go.Proofs.Ytafjbebbmfihaaa.P
