/- What the document's own functions of chapter 11 come to, in plain Lean; no condition. -/
import Derived.Test.YtafjbebbmfihaaaGDomsF
import Derived.Test.YtafjbebbmfihaaaGBits
import Derived.Test.YtafjbebbmfihaaaPx15
import Derived.Test.YtafjbebbmfihaaaPx16
import Derived.Test.YtafjbebbmfihaaaPx17
import Derived.Test.YtafjbebbmfihaaaPx18
import Derived.Test.YtafjbebbmfihaaaPx19
import Derived.Test.YtafjbebbmfihaaaPx20
import Derived.Test.YtafjbebbmfihaaaPx21
import Derived.Test.YtafjbebbmfihaaaPx22
namespace Go.Proofs.Ytafjbebbmfihaaa.P
open Go.RowKit Go.Proofs.YtafjbebbmfihaaaW.PrintWords Go.Proofs.YtafjbebbmfihaaaW.PrintLast Go.Proofs.YtafjbebbmfihaaaW.PrintMore
set_option linter.unusedVariables false
set_option linter.unusedSimpArgs false
set_option linter.unusedSectionVars false

/-! ### ways -/
theorem rways_l0 (n : Int) (ts : List (List Int)) (i : Int) (L : List Int) (hi : 0 ≤ i) (hlt : i < ts.length) (hLe : rd_L1 ts i = L) (hL : L.length < 1000000) : ∀ (d j : Nat) (acc : List Int), d = L.length - j → j ≤ L.length → acc.length ≤ j →
    Tot (fun k => ferruleref11_ways.l0 k n ts i acc (j : Int)) (acc ++ (L.drop j).filter (fun x => decide (0 ≤ x) && decide (x < n))) := by
  intro d
  induction d with
  | zero =>
    intro j acc hd hj ha
    have e : L.drop j = [] := List.drop_eq_nil_of_le (by omega)
    rw [e]
    refine ((Tot.pure _).step (f := fun k => ferruleref11_ways.j1 k n ts i acc (j : Int) false) (fun k => ?_)).step (fun k => ?_)
    · rw [ferruleref11_ways.j1, if_neg (by decide)]
      simp
    · rw [ferruleref11_ways.l0, if_pos hlt, if_pos hi, hLe, decide_eq_false (by omega)]
  | succ d ih =>
    intro j acc hd hj ha
    have hjl : j < L.length := by omega
    have hr := rd_at hjl
    have hdr := List.drop_eq_getElem_cons hjl
    generalize L[j] = x at hr hdr
    have head : ∀ {r : List Int} {g : Nat → Option (List Int)}, Tot g r → (∀ k, ferruleref11_ways.j1 (k + 1) n ts i acc (j : Int) true = g k) → Tot (fun k => ferruleref11_ways.l0 k n ts i acc (j : Int)) r := by
      intro r g hg h
      refine (hg.step (f := fun k => ferruleref11_ways.j1 k n ts i acc (j : Int) true) h).step (fun k => ?_)
      rw [ferruleref11_ways.l0, if_pos hlt, if_pos hi, hLe, decide_eq_true (by omega)]
    by_cases c0 : x ≥ 0
    · by_cases c1 : x < n
      · have ih := ih (j + 1) (acc ++ [x]) (by omega) (by omega) (by simp; omega)
        have e : (acc ++ [x]) ++ (L.drop (j + 1)).filter (fun x => decide (0 ≤ x) && decide (x < n)) = acc ++ (L.drop j).filter (fun x => decide (0 ≤ x) && decide (x < n)) := by
          rw [hdr, List.filter_cons_of_pos (by simp; exact ⟨c0, c1⟩)]
          simp
        rw [e] at ih
        refine head ih (fun k => ?_)
        rw [ferruleref11_ways.j1, if_pos rfl, if_pos hi, if_pos hlt, if_pos (by omega), hLe, if_pos (by omega), hr, if_pos c0, if_pos c1, if_pos (by omega), w64n _ (by omega)]
      · have ih := ih (j + 1) acc (by omega) (by omega) (by omega)
        have e : acc ++ (L.drop (j + 1)).filter (fun x => decide (0 ≤ x) && decide (x < n)) = acc ++ (L.drop j).filter (fun x => decide (0 ≤ x) && decide (x < n)) := by
          rw [hdr, List.filter_cons_of_neg (by simp; omega)]
        rw [e] at ih
        refine head ih (fun k => ?_)
        rw [ferruleref11_ways.j1, if_pos rfl, if_pos hi, if_pos hlt, if_pos (by omega), hLe, if_pos (by omega), hr, if_pos c0, if_neg c1, w64n _ (by omega)]
    · have ih := ih (j + 1) acc (by omega) (by omega) (by omega)
      have e : acc ++ (L.drop (j + 1)).filter (fun x => decide (0 ≤ x) && decide (x < n)) = acc ++ (L.drop j).filter (fun x => decide (0 ≤ x) && decide (x < n)) := by
        rw [hdr, List.filter_cons_of_neg (by simp; omega)]
      rw [e] at ih
      refine head ih (fun k => ?_)
      rw [ferruleref11_ways.j1, if_pos rfl, if_pos hi, if_pos hlt, if_pos (by omega), hLe, if_pos (by omega), hr, if_neg c0, w64n _ (by omega)]
theorem rways_tot (n : Int) (ts : List (List Int)) (i : Int) (hi : 0 ≤ i) (hL : (rd_L1 ts i).length < 1000000) : Tot (fun k => ferruleref11_ways.f k n ts i) (Wy n ts i) := by
  unfold Wy
  by_cases c : i < ts.length
  · rw [if_pos c]
    have h := rways_l0 n ts i _ hi c rfl hL _ 0 [] rfl (Nat.zero_le _) (Nat.zero_le _)
    exact h.congr (fun k => rfl)
  · rw [if_neg c]
    have h := ((Tot.pure ([] : List Int)).step (f := fun k => ferruleref11_ways.j1 k n ts i [] 0 false) (fun k => by rw [ferruleref11_ways.j1, if_neg (by decide)])).step (f := fun k => ferruleref11_ways.l0 k n ts i [] 0) (fun k => by rw [ferruleref11_ways.l0, if_neg c])
    exact h.congr (fun k => rfl)

/-! ### the order -/
section
variable {n : Int} {ts : List (List Int)} {N : Nat}
theorem rchd_add (s : List Int) (i : Int) (h0 : 0 ≤ i) (h1 : i < N) : (rchd s N).set i.toNat true = rchd (s ++ [i]) N := by
  unfold rchd
  apply List.ext_getElem
  · simp
  · intro j h2 h3
    simp only [List.getElem_set, List.getElem_map, List.getElem_range, List.mem_append, List.mem_singleton]
    by_cases c : i.toNat = j
    · rw [if_pos c]
      have : (j : Int) = i := by omega
      simp [this]
    · rw [if_neg c]
      have : ¬ (j : Int) = i := by omega
      simp [this]
theorem rchd_at {s : List Int} {x : Int} (h0 : 0 ≤ x) (h1 : x < N) : rdOf false (rchd s N) x = decide (x ∈ s) := by
  obtain ⟨y, rfl⟩ : ∃ y : Nat, x = (y : Int) := ⟨x.toNat, by omega⟩
  exact rchd_rd (by omega)
theorem leave_sim (hn : n = N) (hts : ∀ i, (rd_L1 ts i).length < 1000000) : ∀ k,
    (∀ i s out t o, graph_walk.go k n ts i s out = some (t, o) → 0 ≤ i → i < N → Tot (fun K => ferruleref11_leave.f K n ts i (rchd s N) out) (o, rchd t N)) ∧
    (∀ i (ws : List Int) (j : Nat) s out t o, graph_walk.lo k n ts i (ws.drop j) s out = some (t, o) → (∀ x ∈ ws, 0 ≤ x ∧ x < N) → ws.length < 1000000 → j ≤ ws.length → Tot (fun K => ferruleref11_leave.l0 K n ts i (rchd s N) out ws (j : Int)) (o, rchd t N))
  | 0 => ⟨fun i s out t o h => by simp [graph_walk.go] at h, fun i ws j s out t o h => by simp [graph_walk.lo] at h⟩
  | k + 1 => by
    obtain ⟨ihg, ihl⟩ := leave_sim hn hts k
    refine ⟨?_, ?_⟩
    · intro i s out t o h h0 h1
      simp only [graph_walk.go] at h
      obtain ⟨ws, hws, h⟩ := Option.bind_eq_some_iff.1 h
      by_cases c : ws.length < 1000000
      case neg => rw [if_neg c] at h; cases h
      rw [if_pos c] at h
      have hw : ws = Wy n ts i := by
        obtain ⟨K, hK⟩ := ways_tot n ts i h0 (hts i)
        have a := at_rounds (graph_ways.mono n ts i) (Nat.le_max_left k K) hws
        have b := hK (max k K) (Nat.le_max_right k K)
        exact Option.some.inj (a.symm.trans b)
      have hl := ihl i ws 0 (s ++ [i]) out t o h (fun x hx => by rw [hw] at hx; have := Wy_mem hx; omega) c (Nat.zero_le _)
      have hrw := rways_tot n ts i h0 (hts i)
      rw [← hw] at hrw
      rw [← rchd_add s i h0 h1] at hl
      have hb := Tot.bind (b := fun K t289 => ferruleref11_leave.l0 K n ts i ((rchd s N).set i.toNat true) out t289 0) hrw hl
      refine hb.step (fun K => ?_)
      rw [ferruleref11_leave.f, if_pos h0, if_pos (by rw [rchd_length]; exact h1)]
    · intro i ws j s out t o h hr hwl hj
      by_cases c : j < ws.length
      · have hrd := rd_at c
        have hdr := List.drop_eq_getElem_cons c
        have hx := hr _ (List.getElem_mem c)
        generalize ws[j] = x at hrd hdr hx
        rw [hdr] at h
        simp only [graph_walk.lo] at h
        by_cases d : x ∈ s
        · rw [if_pos d] at h
          have ih := ihl i ws (j + 1) s out t o h hr hwl c
          refine ih.step (fun K => ?_)
          rw [ferruleref11_leave.l0, if_pos (by omega), if_pos (by omega), hrd, if_pos hx.1, if_pos (by rw [rchd_length]; exact hx.2), if_pos (by rw [rchd_at hx.1 hx.2]; exact decide_eq_true d), w64n _ (by omega)]
        · rw [if_neg d] at h
          obtain ⟨⟨t1, o1⟩, hg, h⟩ := Option.bind_eq_some_iff.1 h
          have ih1 := ihg x s out t1 o1 hg hx.1 hx.2
          have ih2 := ihl i ws (j + 1) t1 o1 t o h hr hwl c
          have hb := Tot.bind (b := fun K (bt : List Int × List Bool) => ferruleref11_leave.l0 K n ts i bt.2 bt.1 ws ((j + 1 : Nat) : Int)) ih1 ih2
          refine hb.step (fun K => ?_)
          rw [ferruleref11_leave.l0, if_pos (by omega), if_pos (by omega), hrd, if_pos hx.1, if_pos (by rw [rchd_length]; exact hx.2), if_neg (by rw [rchd_at hx.1 hx.2]; simpa using d), w64n _ (by omega)]
      · have hd : ws.drop j = [] := List.drop_eq_nil_of_le (by omega)
        rw [hd] at h
        simp only [graph_walk.lo] at h
        by_cases e : out.length < 1000000
        case neg => rw [if_neg e] at h; cases h
        rw [if_pos e, Option.some.injEq, Prod.mk.injEq] at h
        obtain ⟨rfl, rfl⟩ := h
        refine (Tot.pure _).step (fun K => ?_)
        rw [ferruleref11_leave.l0, if_neg (by omega), if_pos (by omega)]
theorem rev_l0 (l : List Int) (hl : l.length < 1000000) : ∀ j : Nat, j ≤ l.length → Tot (fun k => ferruleref11_Order.l0 k l ((l.drop j).reverse) ((j : Int) - 1)) l.reverse
  | 0, _ => by
    refine (Tot.pure _).step (fun k => ?_)
    rw [ferruleref11_Order.l0, if_neg (by omega)]
    rfl
  | j + 1, hj => by
    have ih := rev_l0 l hl j (by omega)
    have hlt : j < l.length := by omega
    have hr := rd_at hlt
    have hdr := List.drop_eq_getElem_cons hlt
    generalize l[j] = x at hr hdr
    have hlen : ((l.drop (j + 1)).reverse).length < 17592186044416 := by simp; omega
    refine ih.step (fun k => ?_)
    rw [show ((j + 1 : Nat) : Int) - 1 = (j : Int) by omega, ferruleref11_Order.l0, if_pos (by omega), if_pos (by omega), if_pos (by omega), if_pos hlen, hr, hdr, List.reverse_cons, w64 (by omega) (by omega)]
theorem rorder_tot (hn : n = N) (hN : N < 1000000) (h0 : 0 < N) (hts : ∀ i, (rd_L1 ts i).length < 1000000) {t o : List Int} (ho : o.length < 1000000) (hw : Tot (fun k => graph_walk.f k n ts) (t, o)) : Tot (fun k => ferruleref11_Order.f k n ts) o.reverse := by
  obtain ⟨k, hk⟩ := hw.get
  unfold graph_walk.f at hk
  rw [if_pos (by omega)] at hk
  have h1 := (leave_sim hn hts k).1 0 [] [] t o hk (by omega) (by omega)
  have e0 : rchd [] N = List.replicate N false := by
    unfold rchd
    apply List.ext_getElem
    · simp
    · intro i h1 h2
      simp
  rw [e0] at h1
  have h2 := rev_l0 o ho o.length (Nat.le_refl _)
  rw [List.drop_length] at h2
  have hb := Tot.bind (b := fun k (bt : List Int × List Bool) => ferruleref11_Order.l0 k bt.1 [] (wrap64 ((bt.1.length : Int) - 1))) h1 (by
    refine h2.congr (fun k => ?_)
    show ferruleref11_Order.l0 k o [] (wrap64 ((o.length : Int) - 1)) = _
    rw [w64 (by omega) (by omega)]
    rfl)
  refine hb.congr (fun k => ?_)
  unfold ferruleref11_Order.f
  rw [if_neg (by omega), if_pos (by omega), if_pos (by omega), show n.toNat = N by omega]

/-! ### what can be come to without one -/
/-- A walk's list: what can be come to without d, each once. -/
structure Que (n : Int) (ts : List (List Int)) (N : Nat) (d : Int) (q : List Int) : Prop where
  nd : q.Nodup
  rg : ∀ x ∈ q, 0 ≤ x ∧ x < N
  zero : (0 : Int) ∈ q
  rw_ : ∀ x ∈ q, Rw (Wy n ts) d x
theorem walk_l1 (hn : n = N) (hN : N < 1000000) (d : Int) (ws : List Int) (hws : ∀ x ∈ ws, 0 ≤ x ∧ x < N) (hwl : ws.length < 1000000) (i : Nat) (p : Int) (hp : ∀ x ∈ ws, x ∈ Wy n ts p) (hpr : Rw (Wy n ts) d p) {r : List Bool} :
    ∀ (e j : Nat) (q : List Int), e = ws.length - j → j ≤ ws.length → Que n ts N d q →
      (∀ q', Que n ts N d q' → (∃ m, q' = q ++ m) → (∀ x ∈ ws.drop j, x ≠ d → x ∈ q') → Tot (fun k => ferruleref11_Walk.l0 k n ts d (rchd q' N) q' ((i + 1 : Nat) : Int)) r) → i < 1000000 →
      Tot (fun k => ferruleref11_Walk.l1 k n ts d (rchd q N) q (i : Int) ws (j : Int)) r := by
  intro e
  induction e with
  | zero =>
    intro j q he hj Q cont hi
    have hd : ws.drop j = [] := List.drop_eq_nil_of_le (by omega)
    refine (cont q Q ⟨[], by simp⟩ (by rw [hd]; simp)).step (fun k => ?_)
    rw [ferruleref11_Walk.l1, if_neg (by omega), w64n _ (by omega)]
  | succ e ih =>
    intro j q he hj Q cont hi
    have hlt : j < ws.length := by omega
    have hrd := rd_at hlt
    have hdr := List.drop_eq_getElem_cons hlt
    have hx := hws _ (List.getElem_mem hlt)
    have hxp := hp _ (List.getElem_mem hlt)
    generalize ws[j] = x at hrd hdr hx hxp
    have hql := nodup_le q Q.nd Q.rg
    by_cases c : x ∈ q
    · have ih := ih (j + 1) q (by omega) hlt Q (fun q' Q' hm hall => cont q' Q' hm (fun y hy hne => by
        rw [hdr] at hy
        rcases List.mem_cons.1 hy with rfl | hy
        · obtain ⟨m, rfl⟩ := hm
          exact List.mem_append_left _ c
        · exact hall y hy hne)) hi
      refine ih.step (fun k => ?_)
      rw [ferruleref11_Walk.l1, if_pos (by omega), if_pos (by omega), hrd, if_pos hx.1, if_pos (by rw [rchd_length]; exact hx.2), if_pos (by rw [rchd_at hx.1 hx.2]; exact decide_eq_true c), w64n _ (by omega)]
    · by_cases g : x = d
      · have ih := ih (j + 1) q (by omega) hlt Q (fun q' Q' hm hall => cont q' Q' hm (fun y hy hne => by
          rw [hdr] at hy
          rcases List.mem_cons.1 hy with rfl | hy
          · exact absurd g hne
          · exact hall y hy hne)) hi
        refine ih.step (fun k => ?_)
        rw [ferruleref11_Walk.l1, if_pos (by omega), if_pos (by omega), hrd, if_pos hx.1, if_pos (by rw [rchd_length]; exact hx.2), if_neg (by rw [rchd_at hx.1 hx.2]; simpa using c), if_pos g, w64n _ (by omega)]
      · have Q2 : Que n ts N d (q ++ [x]) := by
          refine ⟨?_, ?_, List.mem_append_left _ Q.zero, ?_⟩
          · rw [List.nodup_append]
            exact ⟨Q.nd, by simp, fun a ha b hb e => c (by rw [← List.mem_singleton.1 hb, ← e]; exact ha)⟩
          · intro y hy
            rcases List.mem_append.1 hy with hy | hy
            · exact Q.rg y hy
            · rw [List.mem_singleton.1 hy]; exact hx
          · intro y hy
            rcases List.mem_append.1 hy with hy | hy
            · exact Q.rw_ y hy
            · rw [List.mem_singleton.1 hy]; exact .step p x hpr hxp g
        have ih := ih (j + 1) (q ++ [x]) (by omega) hlt Q2 (fun q' Q' hm hall => by
          obtain ⟨m, rfl⟩ := hm
          exact cont _ Q' ⟨[x] ++ m, by simp⟩ (fun y hy hne => by
            rw [hdr] at hy
            rcases List.mem_cons.1 hy with rfl | hy
            · simp
            · exact hall y hy hne)) hi
        refine ih.step (fun k => ?_)
        rw [ferruleref11_Walk.l1, if_pos (by omega), if_pos (by omega), hrd, if_pos hx.1, if_pos (by rw [rchd_length]; exact hx.2), if_neg (by rw [rchd_at hx.1 hx.2]; simpa using c), if_neg g, if_pos (by omega), rchd_add q x hx.1 hx.2, w64n _ (by omega)]
theorem walk_l0 (hn : n = N) (hN : N < 1000000) (hts : ∀ i, (rd_L1 ts i).length < 1000000) (d : Int) : ∀ (e i : Nat) (q : List Int), e = N - i → i ≤ q.length → Que n ts N d q → (∀ (a : Nat) (h : a < q.length), a < i → ∀ y ∈ Wy n ts q[a], y ≠ d → y ∈ q) →
    ∃ q', Tot (fun k => ferruleref11_Walk.l0 k n ts d (rchd q N) q (i : Int)) (rchd q' N) ∧ ∀ v, v ∈ q' ↔ Rw (Wy n ts) d v := by
  intro e
  induction e with
  | zero =>
    intro i q he hi Q hcl
    have hql := nodup_le q Q.nd Q.rg
    have ei : i = q.length := by omega
    subst ei
    refine ⟨q, (Tot.pure _).step (fun k => ?_), fun v => ⟨Q.rw_ v, fun h => ?_⟩⟩
    · rw [ferruleref11_Walk.l0, if_neg (by omega)]
    · induction h with
      | zero _ => exact Q.zero
      | step p v _ hv hne ih =>
        obtain ⟨a, ha, e⟩ := List.getElem_of_mem ih
        exact hcl a ha ha v (by rw [e]; exact hv) hne
  | succ e ih =>
    intro i q he hi Q hcl
    by_cases c : i < q.length
    · have hrd := rd_at c
      have hpm := List.getElem_mem c
      obtain ⟨p0, p1⟩ := Q.rg _ hpm
      have hws := rways_tot n ts q[i] p0 (hts _)
      have hwl := Wy_length n ts q[i]
      have hwt := hts q[i]
      -- the end's list is that of the next round's
      obtain ⟨q2, hq2⟩ : ∃ q2 : List Int, q2 = q := ⟨q, rfl⟩
      have key : ∀ q', Que n ts N d q' → (∃ m, q' = q ++ m) → (∀ x ∈ (Wy n ts q[i]).drop 0, x ≠ d → x ∈ q') → ∃ q3, Tot (fun k => ferruleref11_Walk.l0 k n ts d (rchd q' N) q' ((i + 1 : Nat) : Int)) (rchd q3 N) ∧ ∀ v, v ∈ q3 ↔ Rw (Wy n ts) d v := by
        intro q' Q' hm hall
        obtain ⟨m, rfl⟩ := hm
        refine ih (i + 1) (q ++ m) (by omega) (by rw [List.length_append]; omega) Q' (fun a ha hai y hy hne => ?_)
        have haq : a < q.length := by omega
        rw [List.getElem_append_left haq] at hy
        by_cases ea : a = i
        · subst ea
          exact hall y (by rw [List.drop_zero]; exact hy) hne
        · exact List.mem_append_left _ (hcl a haq (by omega) y hy hne)
      -- all ends bear the same answers
      have uniq : ∀ q3 q4 : List Int, (∀ v, v ∈ q3 ↔ Rw (Wy n ts) d v) → (∀ v, v ∈ q4 ↔ Rw (Wy n ts) d v) → rchd q3 N = rchd q4 N := by
        intro q3 q4 h3 h4
        unfold rchd
        apply List.map_congr_left
        intro a _
        exact decide_eq_decide.2 ((h3 _).trans (h4 _).symm)
      -- some list bears them: what can be come to, cut out of the blocks
      have hex : ∃ q3 : List Int, ∀ v, v ∈ q3 ↔ Rw (Wy n ts) d v := by
        haveI : DecidablePred (fun a : Nat => Rw (Wy n ts) d (a : Int)) := fun _ => Classical.propDecidable _
        refine ⟨((List.range N).filter (fun (a : Nat) => decide (Rw (Wy n ts) d (a : Int)))).map (fun (a : Nat) => (a : Int)), fun v => ?_⟩
        rw [List.mem_map]
        constructor
        · rintro ⟨a, ha, rfl⟩
          exact of_decide_eq_true (List.mem_filter.1 ha).2
        · intro h
          have hv : 0 ≤ v ∧ v < N := by
            cases h with
            | zero _ => exact Q.rg 0 Q.zero
            | step p v _ hv _ => have := Wy_mem hv; omega
          refine ⟨v.toNat, List.mem_filter.2 ⟨List.mem_range.2 (by omega), ?_⟩, Int.toNat_of_nonneg hv.1⟩
          exact decide_eq_true (by rw [Int.toNat_of_nonneg hv.1]; exact h)
      obtain ⟨q3, h3⟩ := hex
      have h1 := walk_l1 hn hN d (Wy n ts q[i]) (fun x hx => by have := Wy_mem hx; omega) (by omega) i q[i] (fun x hx => hx) (Q.rw_ _ hpm) (r := rchd q3 N) _ 0 q rfl (Nat.zero_le _) Q (fun q' Q' hm hall => by
        obtain ⟨q4, t4, h4⟩ := key q' Q' hm hall
        rw [uniq q3 q4 h3 h4]
        exact t4) (by have := nodup_le q Q.nd Q.rg; omega)
      refine ⟨q3, ?_, h3⟩
      have hb := Tot.bind (b := fun k t261 => ferruleref11_Walk.l1 k n ts d (rchd q N) q (i : Int) t261 0) hws h1
      refine hb.step (fun k => ?_)
      rw [ferruleref11_Walk.l0, if_pos (by omega), if_pos (by omega), hrd]
    · have ei : i = q.length := by omega
      subst ei
      refine ⟨q, (Tot.pure _).step (fun k => ?_), fun v => ⟨Q.rw_ v, fun h => ?_⟩⟩
      · rw [ferruleref11_Walk.l0, if_neg (by omega)]
      · induction h with
        | zero _ => exact Q.zero
        | step p v _ hv hne ih =>
          obtain ⟨a, ha, e⟩ := List.getElem_of_mem ih
          exact hcl a ha ha v (by rw [e]; exact hv) hne
theorem rwalk_tot (hn : n = N) (hN : N < 1000000) (h0 : 0 < N) (hts : ∀ i, (rd_L1 ts i).length < 1000000) (d : Int) : ∃ q, Tot (fun k => ferruleref11_Walk.f k n ts d) (rchd q N) ∧ ∀ v, v ∈ q ↔ Rw (Wy n ts) d v := by
  have e0 : rchd [] N = List.replicate N false := by
    unfold rchd
    apply List.ext_getElem
    · simp
    · intro i h1 h2
      simp
  have head : ∀ {q : List Int} {b : Bool}, b = (d == 0) → Tot (fun k => ferruleref11_Walk.j1 k n ts d (List.replicate N false) b) (rchd q N) → Tot (fun k => ferruleref11_Walk.f k n ts d) (rchd q N) := by
    intro q b hb h
    subst hb
    have h2 : Tot (fun k => ferruleref11_Walk.j0 k n ts d) (rchd q N) := by
      refine h.step (fun k => ?_)
      rw [ferruleref11_Walk.j0, if_pos (by omega), if_pos (by omega), show n.toNat = N by omega]
      show (if n = 0 then _ else _) = _
      rw [if_neg (by omega)]
    refine h2.congr (fun k => ?_)
    unfold ferruleref11_Walk.f
    rw [if_neg (by omega)]
  by_cases c : d = 0
  · refine ⟨[], head (b := true) (by rw [c]; rfl) ?_, fun v => ⟨fun h => absurd h (by simp), fun h => ?_⟩⟩
    · rw [e0]
      refine (Tot.pure _).step (fun k => ?_)
      rw [ferruleref11_Walk.j1, if_pos rfl]
    · exfalso
      induction h with
      | zero h => exact h c
      | step p v _ _ _ ih => exact ih
  · have Q : Que n ts N d [0] := ⟨by simp, fun x hx => by rw [List.mem_singleton.1 hx]; omega, by simp, fun x hx => by rw [List.mem_singleton.1 hx]; exact .zero c⟩
    obtain ⟨q, t1, h1⟩ := walk_l0 hn hN hts d N 0 [0] (by omega) (Nat.zero_le _) Q (fun a _ ha => by omega)
    refine ⟨q, head (b := false) (by simp [c]) ?_, h1⟩
    have e1 : (List.replicate N false).set (0 : Int).toNat true = rchd [0] N := by
      rw [← e0, rchd_add [] 0 (by omega) (by omega)]
      rfl
    refine t1.step (fun k => ?_)
    rw [ferruleref11_Walk.j1, if_neg (by decide), if_pos (by simp; omega), e1]
    rfl
end
end Go.Proofs.Ytafjbebbmfihaaa.P
