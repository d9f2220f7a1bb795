/- ferrulelaw11.GraphTells answers true, in plain Lean; no condition. -/
import Derived.Test.YtafjbebbmfihaaaGRefD
import Derived.Test.YtafjbebbmfihaaaPx23
namespace Go.Proofs.Ytafjbebbmfihaaa.P
open Go.RowKit Go.Proofs.YtafjbebbmfihaaaW.PrintWords Go.Proofs.YtafjbebbmfihaaaW.PrintLast Go.Proofs.YtafjbebbmfihaaaW.PrintMore
set_option linter.unusedVariables false
set_option linter.unusedSimpArgs false
set_option linter.unusedSectionVars false

theorem ints_l0 (l : List Int) (hl : l.length < 1000000) : ∀ (d i : Nat), d = l.length - i → i ≤ l.length → Tot (fun k => ferrulelaw11_ints.l0 k l l (i : Int)) true := by
  intro d
  induction d with
  | zero =>
    intro i hd hi
    refine (Tot.pure _).step (fun k => ?_)
    rw [ferrulelaw11_ints.l0, if_neg (by omega)]
  | succ d ih =>
    intro i hd hi
    refine (ih (i + 1) (by omega) (by omega)).step (fun k => ?_)
    rw [ferrulelaw11_ints.l0, if_pos (by omega), if_pos (by omega), if_pos (by omega), if_pos rfl, w64n _ (by omega)]
theorem ints_tot (l : List Int) (hl : l.length < 1000000) : Tot (fun k => ferrulelaw11_ints.f k l l) true := by
  refine (ints_l0 l hl _ 0 rfl (Nat.zero_le _)).congr (fun k => ?_)
  unfold ferrulelaw11_ints.f
  rw [if_pos rfl]
  rfl
theorem tells_l0 (R : List Bool) (F : List (List Int)) (hRF : F.length = R.length) (hR : R.length < 1000000) (hF : ∀ i : Nat, i < F.length → (rd_L1 F (i : Int)).length < 1000000) : ∀ (d i : Nat), d = R.length - i → i ≤ R.length → Tot (fun k => ferrulelaw11_GraphTells.l0 k R R F F (i : Int)) true := by
  intro d
  induction d with
  | zero =>
    intro i hd hi
    refine (Tot.pure _).step (fun k => ?_)
    rw [ferrulelaw11_GraphTells.l0, if_neg (by omega)]
  | succ d ih =>
    intro i hd hi
    have h1 := ints_tot (rd_L1 F (i : Int)) (hF i (by omega))
    have hb := Tot.bind (b := fun k t361 => if t361 = true then ferrulelaw11_GraphTells.l0 k R R F F ((i + 1 : Nat) : Int) else some false) h1 (Tot.pos rfl (ih (i + 1) (by omega) (by omega)))
    refine hb.step (fun k => ?_)
    rw [ferrulelaw11_GraphTells.l0, if_pos (by omega), if_pos (by omega), if_pos (by omega), if_neg (by simp), if_pos (by omega), if_pos (by omega), w64n _ (by omega)]
/-- All tables being alike, the law answers true. -/
theorem tells_join (a0 : Int) (ts : List (List Int)) (hb : Tot (fun k => ferrulelaw11_few.f k ts) true) (R : List Bool) (F : List (List Int)) (O D : List Int) (hRF : F.length = R.length) (hR : R.length < 1000000) (hF : ∀ i : Nat, i < F.length → (rd_L1 F (i : Int)).length < 1000000) (hO : O.length < 1000000) (hD : D.length < 1000000)
    (r1 : Tot (fun k => graph_Reach.f k (mn a0 12) ts) R) (r2 : Tot (fun k => ferruleref11_Reach.f k (mn a0 12) ts) R) (f1 : Tot (fun k => graph_From.f k (mn a0 12) ts) F) (f2 : Tot (fun k => ferruleref11_From.f k (mn a0 12) ts) F)
    (o1 : Tot (fun k => graph_Order.f k (mn a0 12) ts) O) (o2 : Tot (fun k => ferruleref11_Order.f k (mn a0 12) ts) O) (d1 : Tot (fun k => graph_Doms.f k (mn a0 12) ts) D) (d2 : Tot (fun k => ferruleref11_Doms.f k (mn a0 12) ts) D) :
    Tot (fun k => ferrulelaw11_GraphTells.f k a0 ts) true := by
  have hl := tells_l0 R F hRF hR hF _ 0 rfl (Nat.zero_le _)
  have hj : Tot (fun k => ferrulelaw11_GraphTells.j0 k R R F F (!true)) true := by
    refine hl.step (fun k => ?_)
    rw [ferrulelaw11_GraphTells.j0, if_neg (by decide)]
    rfl
  unfold ferrulelaw11_GraphTells.f
  refine Tot.bind (b := fun k t330 => if t330 = true then _ else some true) hb (Tot.pos rfl ?_)
  refine Tot.bind (b := fun k t331 => ((ferruleref11_Reach.f k (mn a0 12) ts).bind fun t334 => _)) r1 ?_
  refine Tot.bind (b := fun k t334 => ((graph_From.f k (mn a0 12) ts).bind fun t337 => _)) r2 ?_
  refine Tot.bind (b := fun k t337 => ((ferruleref11_From.f k (mn a0 12) ts).bind fun t340 => _)) f1 ?_
  refine Tot.bind (b := fun k t340 => _) f2 ?_
  refine Tot.pos rfl (Tot.pos rfl ?_)
  refine Tot.bind (b := fun k t343 => ((ferruleref11_Order.f k (mn a0 12) ts).bind fun t346 => _)) o1 ?_
  refine Tot.bind (b := fun k t346 => ((ferrulelaw11_ints.f k O t346).bind fun t349 => _)) o2 ?_
  refine Tot.bind (b := fun k t349 => _) (ints_tot O hO) ?_
  refine Tot.pos rfl ?_
  refine Tot.bind (b := fun k t350 => ((ferruleref11_Doms.f k (mn a0 12) ts).bind fun t353 => _)) d1 ?_
  refine Tot.bind (b := fun k t353 => ((ferrulelaw11_ints.f k D t353).bind fun t356 => _)) d2 ?_
  exact Tot.bind (b := fun k t356 => ferrulelaw11_GraphTells.j0 k R R F F (!t356)) (ints_tot D hD) hj
theorem GraphTells_pure (a0 : Int) (ts : List (List Int)) (hl : ∀ i, (rd_L1 ts i).length < 4611686018427387904) (hl0 : ts.length < 4611686018427387904) : ∃ k, ferrulelaw11_GraphTells.f k a0 ts = some true := by
  refine Tot.get (f := fun k => ferrulelaw11_GraphTells.f k a0 ts) ?_
  obtain ⟨b, hb, hb2⟩ := few_tot ts hl hl0
  cases b with
  | false =>
    refine (Tot.bind (b := fun k t107 => if t107 = true then _ else some true) hb (Tot.neg (by decide) (Tot.pure _))).congr (fun k => rfl)
  | true =>
    obtain ⟨hlen, hts⟩ := hb2 rfl
    have hts6 : ∀ i, (rd_L1 ts i).length < 1000000 := fun i => by have := hts i; omega
    have h12 : mn a0 12 ≤ 12 := by unfold mn; split <;> omega
    have join := tells_join a0 ts hb
    generalize mn a0 12 = n at h12 join
    by_cases c : 0 < n
    · obtain ⟨N, hN⟩ : ∃ N : Nat, (N : Int) = n := ⟨n.toNat, by omega⟩
      obtain ⟨t, o, hw, hW⟩ := walk_tot (n := n) (ts := ts) (N := N) hN.symm (by omega) (by omega) hts6
      obtain ⟨near, hdm, hD⟩ := doms_tot (n := n) hN.symm (by omega) (by omega) hts6 hw hW
      have hmem : ∀ v, v ∈ (o ++ [0]) → v ∈ t := fun v h => (hW.mem v).2 (by rcases List.mem_append.1 h with h | h; exact .inl h; exact .inr (List.mem_singleton.1 h))
      have hol := nodup_le _ hW.ond (fun v hv => hW.rg v (hmem v hv))
      have hF : (frm n ts N N).length = N := by simp [frm]
      have hR := rchd_length t N
      have hnl := hD.len
      refine join (rchd t N) (frm n ts N N) (o ++ [0]).reverse near (by omega) (by omega) (fun i hi => ?_) (by rw [List.length_reverse]; omega) (by omega)
        (reach_tot hN.symm (by omega) hw) (rreach_tot hN.symm (by omega) (by omega) hts6 hW) (from_tot hN.symm (by omega) hts6) (rfrom_tot hN.symm (by omega) hts6)
        (order_tot (by omega) hw) (rorder_tot hN.symm (by omega) (by omega) hts6 (by omega) hw) hdm (rdoms_tot hN.symm (by omega) (by omega) hts6 hW hD)
      have e : rd_L1 (frm n ts N N) (i : Int) = inTo n ts N i := rd_map (by omega)
      rw [e, inTo_length]
      have := cnt_le (fun a => (i : Int) ∈ Wy n ts (a : Int)) N
      omega
    · have e0 : n.toNat = 0 := by omega
      have hw : ∀ k, graph_walk.f k n ts = some ([], []) := fun k => by unfold graph_walk.f; rw [if_neg c]
      have hord : ∀ k, graph_Order.f k n ts = some [] := fun k => by unfold graph_Order.f; rw [hw]; rfl
      have hfr : Tot (fun k => graph_From.f k n ts) [] := by
        have h1 : Tot (fun k => graph_From.lo k n ts 0 []) [] := (Tot.pure _).step (fun k => by rw [graph_From.lo, if_neg c])
        refine h1.congr (fun k => ?_)
        unfold graph_From.f
        rw [if_pos (by omega), e0]
        rfl
      have hrw : Tot (fun k => ferruleref11_Walk.f k n ts (-1)) [] := by
        have h1 : Tot (fun k => ferruleref11_Walk.j0 k 0 ts (-1)) [] := by
          refine ((Tot.pure ([] : List Bool)).step (f := fun k => ferruleref11_Walk.j1 k 0 ts (-1) [] true) (fun k => ?_)).step (fun k => ?_)
          · rw [ferruleref11_Walk.j1, if_pos rfl]
          · rw [ferruleref11_Walk.j0, if_pos (by omega), if_pos (by decide)]
            rfl
        refine h1.congr (fun k => ?_)
        unfold ferruleref11_Walk.f
        by_cases z : n < 0
        · rw [if_pos z]
        · rw [if_neg z, show n = 0 by omega]
      have hrr : Tot (fun k => ferruleref11_Reach.f k n ts) [] := (Tot.bind (b := fun _ t273 => some t273) hrw (Tot.pure _)).congr (fun k => rfl)
      refine join [] [] [] [] rfl (by decide) (fun i hi => by simp at hi) (by decide) (by decide) ?_ hrr hfr ?_ ((Tot.pure _).congr hord) ?_ ?_ ?_
      · refine (Tot.pure _).congr (fun k => ?_)
        unfold graph_Reach.f
        rw [if_pos (by omega), hw, e0]
        rfl
      · have h1 : Tot (fun k => ferruleref11_From.l0 k n ts [] 0) [] := (Tot.pure _).step (fun k => by rw [ferruleref11_From.l0, if_neg c])
        exact h1.congr (fun k => rfl)
      · refine (Tot.pure _).congr (fun k => ?_)
        unfold ferruleref11_Order.f
        rw [if_pos (by omega)]
      · unfold graph_Doms.f
        refine Tot.pos (by omega) ?_
        refine Tot.bind (b := fun k order => (graph_From.f k n ts).bind fun frm => _) ((Tot.pure _).congr hord) ?_
        refine Tot.bind (b := fun k frm => _) hfr ?_
        refine Tot.pos (by decide) ?_
        rw [e0]
        have h1 : Tot (fun k => graph_Doms.lo k [] [] [] []) [] := (Tot.pure _).step (fun k => by rw [graph_Doms.lo, graph_Doms.pass]; rfl)
        exact h1.congr (fun k => rfl)
      · have h1 : Tot (fun k => ferruleref11_Doms.l0 k n ts [] [] 0) [] := (Tot.pure _).step (fun k => by rw [ferruleref11_Doms.l0, if_neg c])
        exact (Tot.bind (b := fun k t313 => ferruleref11_Doms.l0 k n ts [] t313 0) hrr h1).congr (fun k => rfl)
end Go.Proofs.Ytafjbebbmfihaaa.P
