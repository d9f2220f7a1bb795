/- graph.Doms: for a block that can be come to, the entries' way holds just what is passed on every way to it; in plain Lean; no condition. -/
import Derived.Test.YtafjbebbmfihaaaGDomsL
namespace Go.Proofs.Ytafjbebbmfihaaa.P
open Go.RowKit Go.Proofs.YtafjbebbmfihaaaW.PrintWords Go.Proofs.YtafjbebbmfihaaaW.PrintLast Go.Proofs.YtafjbebbmfihaaaW.PrintMore
set_option linter.unusedVariables false
set_option linter.unusedSimpArgs false
set_option linter.unusedSectionVars false

theorem nodup_rev {l : List Int} (h : l.Nodup) : l.reverse.Nodup := by
  unfold List.Nodup at h ⊢
  exact List.pairwise_reverse.2 (h.imp (fun h => Ne.symm h))
/-- What can be come to without d. -/
inductive Rw (W : Int → List Int) (d : Int) : Int → Prop
  | zero : d ≠ 0 → Rw W d 0
  | step (p v : Int) : Rw W d p → v ∈ W p → v ≠ d → Rw W d v
theorem Rw.in_ {n : Int} {ts : List (List Int)} {N : Nat} {t o : List Int} (hW : Walked n ts N t o) {d v : Int} (h : Rw (Wy n ts) d v) : v ∈ t := by
  induction h with
  | zero => exact (hW.mem 0).2 (.inr rfl)
  | step p v _ hv _ ih => exact hW.shut p ih v hv
theorem frm_mem {n : Int} {ts : List (List Int)} {N : Nat} {v p : Int} (h0 : 0 ≤ v) (h1 : v < N) : p ∈ rd_L1 (frm n ts N N) v ↔ 0 ≤ p ∧ p < N ∧ v ∈ Wy n ts p := by
  obtain ⟨j, rfl⟩ : ∃ j : Nat, v = (j : Int) := ⟨v.toNat, by omega⟩
  rw [show rd_L1 (frm n ts N N) (j : Int) = inTo n ts N j from rd_map (by omega)]
  exact inTo_mem
theorem frm_rg {n : Int} {ts : List (List Int)} {N : Nat} {v p : Int} (h : p ∈ rd_L1 (frm n ts N N) v) : 0 ≤ p ∧ p < N := by
  by_cases c : v.toNat < N
  · have : rd_L1 (frm n ts N N) v = inTo n ts N v.toNat := by
      simp [rd_L1, List.getD, frm, c]
    rw [this] at h
    have := inTo_mem.1 h
    exact ⟨this.1, this.2.1⟩
  · have : rd_L1 (frm n ts N N) v = [] := by simp [rd_L1, List.getD, frm, c]
    rw [this] at h
    cases h
/-- What the table says at the end. -/
structure DomsIs (n : Int) (ts : List (List Int)) (N : Nat) (t order near : List Int) : Prop where
  len : near.length = N
  none_ : ∀ v : Int, 0 ≤ v → v < N → (v = 0 ∨ v ∉ t) → rd near v = -1
  some_ : ∀ v ∈ t, v ≠ 0 → 0 ≤ rd near v ∧ rd near v ∈ t ∧ ∃ (a b : Nat) (ha : a < order.length) (hb : b < order.length), a < b ∧ order[a] = rd near v ∧ order[b] = v
  st : ∃ pl : Int → Int, St pl (· ∈ t) (nrO near)
  is_ : ∀ d v, v ∈ t → (Anc (nrO near) d v ↔ ¬ Rw (Wy n ts) d v)
theorem doms_tot {n : Int} {ts : List (List Int)} {N : Nat} {t o : List Int} (hn : n = N) (hN : N < 1000000) (h0 : 0 < N) (hts : ∀ i, (rd_L1 ts i).length < 1000000) (hw : Tot (fun k => graph_walk.f k n ts) (t, o ++ [0])) (hW : Walked n ts N t o) :
    ∃ near, Tot (fun k => graph_Doms.f k n ts) near ∧ DomsIs n ts N t (o ++ [0]).reverse near := by
  obtain ⟨order, hord⟩ : ∃ order, order = (o ++ [0]).reverse := ⟨_, rfl⟩
  have hmem : ∀ v, v ∈ order ↔ v ∈ t := by
    intro v
    rw [hord, List.mem_reverse, hW.mem, List.mem_append, List.mem_singleton]
  have hnd : order.Nodup := by
    rw [hord]
    exact nodup_rev hW.ond
  have hrg : ∀ v ∈ order, 0 ≤ v ∧ v < N := fun v hv => hW.rg v ((hmem v).1 hv)
  have holN := nodup_le order hnd hrg
  have hol : 1 ≤ order.length := by rw [hord]; simp
  have hhead : order[0] = 0 := by
    simp [hord]
  obtain ⟨place, p1, p2, p3, p4⟩ := places_tot order 0 (List.replicate n.toNat (-1)) hnd (fun b hb => by
    have := hrg b hb
    rw [List.length_replicate]
    omega)
  have hP : place.length = N := by rw [p2, List.length_replicate]; omega
  have hidx : ∀ v ∈ t, ∃ (j : Nat) (h : j < order.length), order[j] = v ∧ rd place v = j := by
    intro v hv
    obtain ⟨j, h, e⟩ := List.getElem_of_mem ((hmem v).2 hv)
    exact ⟨j, h, e, by rw [← e, p3 j h]; omega⟩
  have hout : ∀ v : Int, 0 ≤ v → v < N → v ∉ t → rd place v = -1 := by
    intro v v0 v1 hv
    rw [p4 v v0 (by rw [List.length_replicate]; omega) (fun h => hv ((hmem v).1 h))]
    have : v.toNat < n.toNat := by omega
    simp [rd, List.getD, this]
  have h0o : (0 : Int) ∉ o := fun h => (List.nodup_append.1 hW.ond).2.2 0 h 0 (by simp) rfl
  have hpx : ∃ par : Int → Int, par 0 < 0 ∧ ∀ v ∈ o, v ∈ Wy n ts (par v) ∧ Before (o ++ [0]) v (par v) := by
    have : ∀ v : Int, ∃ p : Int, (v ∈ o → v ∈ Wy n ts p ∧ Before (o ++ [0]) v p) ∧ (v ∉ o → p < 0) := by
      intro v
      by_cases h : v ∈ o
      · obtain ⟨p, hp⟩ := hW.par v h
        exact ⟨p, fun _ => hp, fun h' => absurd h h'⟩
      · exact ⟨-1, fun h' => absurd h' h, fun _ => by decide⟩
    refine ⟨fun v => (this v).choose, (this 0).choose_spec.2 h0o, fun v hv => (this v).choose_spec.1 hv⟩
  obtain ⟨par, hp0, hpar⟩ := hpx
  have F : Fl N (rd place) par (· ∈ t) (fun v => rd_L1 (frm n ts N N) v) := by
    refine ⟨(hW.mem 0).2 (.inr rfl), ?_, hW.rg, ?_, ?_, ?_, ?_, fun v p h => frm_rg h⟩
    · have := p3 0 hol
      rw [hhead] at this
      rw [this]; rfl
    · intro v hv
      obtain ⟨j, h, _, e⟩ := hidx v hv
      rw [e]
      omega
    · intro v v0 v1 hv
      rw [hout v v0 v1 hv]
      decide
    · intro u v hu hv e
      obtain ⟨j, h, e1, e2⟩ := hidx u hu
      obtain ⟨j', h', e1', e2'⟩ := hidx v hv
      have : j = j' := by omega
      subst this
      rw [← e1, ← e1']
    · intro v hv hv0
      have hvo : v ∈ o := ((hW.mem v).1 hv).resolve_right hv0
      obtain ⟨a1, l1, l2, e, a2⟩ := hpar v hvo
      have hpt : par v ∈ t := (hmem _).1 (by rw [hord, e, List.mem_reverse]; exact List.mem_append_right _ (List.mem_cons_of_mem _ a2))
      have he : order = l2.reverse ++ (v :: l1.reverse) := by rw [hord, e]; simp
      have hrv := hW.rg v hv
      refine ⟨hpt, ?_, (frm_mem hrv.1 hrv.2).2 ⟨(hW.rg _ hpt).1, (hW.rg _ hpt).2, a1⟩⟩
      have hlv : l2.length < order.length := by rw [he]; simp
      have hv2 : rd place v = (l2.length : Nat) := by
        have h1 := p3 l2.length hlv
        have h2 : order[l2.length] = v := by
          simp only [he]
          rw [List.getElem_append_right (by simp)]
          simp
        rw [h2] at h1
        rw [h1]; omega
      obtain ⟨j, hj, ej⟩ := List.getElem_of_mem (List.mem_reverse.2 a2)
      have hj2 : j < l2.length := by simpa using hj
      have hp2 : rd place (par v) = j := by
        have h1 := p3 j (by omega)
        have h2 : order[j] = par v := by
          simp only [he]
          rw [List.getElem_append_left hj, ej]
        rw [h2] at h1
        rw [h1]; omega
      rw [hv2, hp2]
      omega
  have hD : ∀ d v p : Int, (v ∈ t ∧ ¬ Rw (Wy n ts) d v) → d ≠ v → p ∈ rd_L1 (frm n ts N N) v → p ∈ t → (p ∈ t ∧ ¬ Rw (Wy n ts) d p) := by
    intro d v p hv hne hp hpt
    have hrv := hW.rg v hv.1
    exact ⟨hpt, fun h => hv.2 (.step p v h ((frm_mem hrv.1 hrv.2).1 hp).2.2 (fun e => hne e.symm))⟩
  have hord2 : ∀ (i : Nat) (h : i < order.length), order[i] ∈ t ∧ rd place order[i] = i := fun i h => ⟨(hmem _).1 (List.getElem_mem h), by rw [p3 i h]; omega⟩
  have hall : ∀ v, v ∈ t → rd place v < order.length := by
    intro v hv
    obtain ⟨j, h, _, e⟩ := hidx v hv
    omega
  have hneg : ∀ v, nrO (List.replicate n.toNat (-1)) v = -1 := by
    intro v
    unfold nrO
    split
    · rename_i h
      rw [List.length_replicate] at h
      have : v.toNat < n.toNat := by omega
      simp [rd, List.getD, this]
    · rfl
  have I0 : Inv (rd place) par (· ∈ t) (fun v => rd_L1 (frm n ts N N) v) (fun d v => v ∈ t ∧ ¬ Rw (Wy n ts) d v) (nrO (List.replicate n.toNat (-1))) 1 :=
    Inv.first F (fun v => by rw [hneg v]; decide) (fun d h => Classical.byContradiction fun hd => h.2 (.zero hd))
  obtain ⟨near, n1, n2, nm, n3, n4⟩ := lo_tot F hp0 hD hP (fun v _ _ => rfl) (by simp [frm]) (fun v _ _ => rfl) hord2 hol hall _ (List.replicate n.toNat (-1)) (Nat.lt_succ_self _) (by rw [List.length_replicate]; omega) (fun v => .inl (hneg v)) I0
  have hdone : ∀ v ∈ t, v ≠ 0 → 0 ≤ nrO near v := by
    intro v hv hv0
    refine n3.seen v hv ?_ (hall v hv)
    have := F.plp v hv
    have h1 : rd place v ≠ 0 := fun h => hv0 (F.inj v 0 hv F.h0 (by rw [h, F.pl0]))
    omega
  have hdrop : ∀ v ∈ t, v ≠ 0 → v ∈ order.drop 1 := by
    intro v hv hv0
    obtain ⟨j, h, e, _⟩ := hidx v hv
    have hj : j ≠ 0 := fun e0 => hv0 (by subst e0; rw [← e, hhead])
    exact List.mem_drop_iff_getElem.2 ⟨j - 1, by omega, by simp only [show 1 + (j - 1) = j by omega]; exact e⟩
  refine ⟨near, ?_, n2, ?_, ?_, ⟨_, n3.st⟩, ?_⟩
  · have hlist : o.length + 1 = order.length := by rw [hord]; simp
    have ho := order_tot (n := n) (ts := ts) (t := t) (o := o ++ [0]) (by simp; omega) hw
    rw [← hord] at ho
    have hf := from_tot (n := n) (ts := ts) (N := N) hn hN hts
    unfold graph_Doms.f
    refine Tot.pos (by omega) ?_
    refine Tot.bind (b := fun k order => (graph_From.f k n ts).bind fun frm => _) ho ?_
    refine Tot.bind (b := fun k frm => _) hf ?_
    refine Tot.pos (by omega) ?_
    refine n1.congr (fun k => ?_)
    rw [p1]
    rfl
  · intro v v0 v1 hv
    rw [← nrO_in (l := near) v0 (by rw [n2]; exact v1)]
    rcases nm v with h | h
    · exact h
    · obtain ⟨a, b, _⟩ := n3.st v h
      rcases hv with e | e
      · exact absurd e b
      · exact absurd a e
  · intro v hv hv0
    have hr := hW.rg v hv
    have h := hdone v hv hv0
    obtain ⟨_, _, a3, a4, _⟩ := n3.st v h
    rw [nrO_in (l := near) hr.1 (by rw [n2]; exact hr.2)] at h a3 a4
    obtain ⟨i, hi, e1, e2⟩ := hidx _ a3
    obtain ⟨j, hj, e3, e4⟩ := hidx v hv
    refine ⟨h, a3, i, j, by rw [← hord]; exact hi, by rw [← hord]; exact hj, by omega, ?_, ?_⟩
    · simp only [← hord]; exact e1
    · simp only [← hord]; exact e3
  · intro d v hv
    constructor
    · intro ha hr
      have key : ∀ {w : Int}, Rw (Wy n ts) d w → ¬ Anc (nrO near) d w := by
        intro w hw
        induction hw with
        | zero h =>
          intro ha
          rcases ha.cases_ with e | ⟨e, _⟩
          · exact h e
          · exact (n3.st 0 e).2.1 rfl
        | step p w hp hw hne ih =>
          intro ha
          rcases ha.cases_ with e | ⟨e, ha⟩
          · exact hne e.symm
          · obtain ⟨a1, a2, _⟩ := n3.st w e
            obtain ⟨z, G, ez⟩ := n4 w (hdrop w a1 a2)
            have hpt := hp.in_ hW
            have hrw := hW.rg w a1
            have hpg : Good (· ∈ t) (nrO near) p := by
              refine ⟨hpt, ?_⟩
              by_cases e0 : p = 0
              · exact .inl e0
              · exact .inr (hdone p hpt e0)
            have hl := G.low p ((frm_mem hrw.1 hrw.2).2 ⟨(hW.rg p hpt).1, (hW.rg p hpt).2, hw⟩) hpg
            rw [ez] at ha
            exact ih (hl.trans ha)
      exact key hr ha
    · intro h
      refine n3.dom d v ⟨hv, ?_⟩ ⟨hv, h⟩
      by_cases e0 : v = 0
      · exact .inl e0
      · exact .inr (hdone v hv e0)
end Go.Proofs.Ytafjbebbmfihaaa.P
