/- graph.Doms over lists: it ends, with a table that is at rest, in plain Lean; no condition. -/
import Derived.Test.YtafjbebbmfihaaaGDoms
namespace Go.Proofs.Ytafjbebbmfihaaa.P
open Go.RowKit Go.Proofs.YtafjbebbmfihaaaW.PrintWords Go.Proofs.YtafjbebbmfihaaaW.PrintLast Go.Proofs.YtafjbebbmfihaaaW.PrintMore
set_option linter.unusedVariables false
set_option linter.unusedSimpArgs false
set_option linter.unusedSectionVars false

/-- A table of numbers as a function: below 0 beyond it. -/
def nrO (l : List Int) (v : Int) : Int := if 0 ≤ v ∧ v < l.length then rd l v else -1
theorem nrO_in {l : List Int} {v : Int} (h0 : 0 ≤ v) (h1 : v < l.length) : nrO l v = rd l v := if_pos ⟨h0, h1⟩
theorem nrO_nn {l : List Int} {v : Int} (h : 0 ≤ nrO l v) : 0 ≤ v ∧ v < l.length := by
  unfold nrO at h
  split at h
  · assumption
  · omega
theorem rd_set {l : List Int} {c v x : Int} (hc0 : 0 ≤ c) (hc1 : c < l.length) (h0 : 0 ≤ v) (h1 : v < l.length) : rd (l.set c.toNat x) v = if v = c then x else rd l v := by
  have a1 : c.toNat < l.length := by omega
  have a2 : v.toNat < l.length := by omega
  by_cases e : v = c
  · subst e
    rw [if_pos rfl]
    simp [rd, List.getD, a1]
  · rw [if_neg e]
    have : ¬ c.toNat = v.toNat := by omega
    simp [rd, List.getD, List.getElem?_set, this]
theorem nrO_set {l : List Int} {c x : Int} (hc0 : 0 ≤ c) (hc1 : c < l.length) : nrO (l.set c.toNat x) c = x ∧ ∀ v, v ≠ c → nrO (l.set c.toNat x) v = nrO l v := by
  unfold nrO
  rw [List.length_set]
  refine ⟨?_, fun v hv => ?_⟩
  · rw [if_pos ⟨hc0, hc1⟩, rd_set hc0 hc1 hc0 hc1, if_pos rfl]
  · by_cases h : 0 ≤ v ∧ v < l.length
    · rw [if_pos h, if_pos h, rd_set hc0 hc1 h.1 h.2, if_neg hv]
    · rw [if_neg h, if_neg h]
/-- What is below 0 is -1. -/
def Mo (l : List Int) : Prop := ∀ v, nrO l v = -1 ∨ 0 ≤ nrO l v
theorem Mo.set_ {l : List Int} {c x : Int} (h : Mo l) (hc0 : 0 ≤ c) (hc1 : c < l.length) (hx : 0 ≤ x) : Mo (l.set c.toNat x) := by
  obtain ⟨e1, e2⟩ := nrO_set (x := x) hc0 hc1
  intro v
  by_cases e : v = c
  · rw [e, e1]; exact .inr hx
  · rw [e2 v e]; exact h v
/-- How far the table is from the block 0, all in all. -/
def far (pl : Int → Int) (N : Nat) (nr : Int → Int) : Nat := sm (fun v => if 0 ≤ nr v then (pl (nr v)).toNat else N) N
theorem sm_lt {f g : Nat → Nat} {y : Nat} : ∀ N, (∀ j, j < N → f j ≤ g j) → y < N → f y < g y → sm f N < sm g N
  | 0, _, hy, _ => by omega
  | N + 1, h, hy, hl => by
    have hle : ∀ M, (∀ j, j < M → f j ≤ g j) → sm f M ≤ sm g M := by
      intro M
      induction M with
      | zero => exact fun _ => Nat.le_refl _
      | succ M ih =>
        intro h
        have := ih (fun j hj => h j (by omega))
        have := h M (by omega)
        simp only [sm]
        omega
    simp only [sm]
    by_cases e : y = N
    · subst e
      have := hle y (fun j hj => h j (by omega))
      omega
    · have := sm_lt N (fun j hj => h j (by omega)) (by omega) hl
      have := h N (by omega)
      omega
theorem far_turn {pl nr nr' : Int → Int} {N : Nat} {c : Int} (hc0 : 0 ≤ c) (hcN : c < N) (hne : ∀ v, v ≠ c → nr' v = nr v) (h0 : 0 ≤ nr' c) (hp : 0 ≤ pl (nr' c)) (hpN : pl (nr' c) < N) (hlt : 0 ≤ nr c → pl (nr' c) < pl (nr c)) : far pl N nr' < far pl N nr := by
  unfold far
  have hcc : ((c.toNat : Nat) : Int) = c := Int.toNat_of_nonneg hc0
  refine sm_lt (y := c.toNat) N (fun j hj => ?_) (by omega) ?_
  · by_cases e : (j : Int) = c
    · rw [e, if_pos h0]
      split
      · have := hlt (by assumption); omega
      · omega
    · rw [hne _ e]
      exact Nat.le_refl _
  · show (if 0 ≤ nr' ((c.toNat : Nat) : Int) then (pl (nr' ((c.toNat : Nat) : Int))).toNat else N) < (if 0 ≤ nr ((c.toNat : Nat) : Int) then (pl (nr ((c.toNat : Nat) : Int))).toNat else N)
    rw [hcc, if_pos h0]
    split
    · have := hlt (by assumption); omega
    · omega
section
variable {N : Nat} {pl par : Int → Int} {R : Int → Prop} {pr : Int → List Int} {place near : List Int}
/-- Two ways from good blocks meet, at the deepest place that is on both. -/
theorem meet_tot (F : Fl N pl par R pr) (hP : place.length = N) (hpl : ∀ v : Int, 0 ≤ v → v < N → rd place v = pl v) (hN : near.length = N) (hS : St pl R (nrO near)) :
    ∀ (d : Nat) (a b : Int), (pl a).toNat + (pl b).toNat < d → Good R (nrO near) a → Good R (nrO near) b →
      ∃ c, Tot (fun k => graph_Doms.meet k place near a b) c ∧ Anc (nrO near) c a ∧ Anc (nrO near) c b ∧ ∀ u, Anc (nrO near) u a → Anc (nrO near) u b → Anc (nrO near) u c
  | 0, a, b, hd, _, _ => by omega
  | d + 1, a, b, hd, ha, hb => by
    obtain ⟨a0, a1⟩ := F.rg a ha.1
    obtain ⟨b0, b1⟩ := F.rg b hb.1
    have pa := F.plp a ha.1
    have pb := F.plp b hb.1
    by_cases e : a = b
    · subst e
      refine ⟨a, (Tot.pure _).step (fun k => ?_), .self, .self, fun u h _ => h⟩
      rw [graph_Doms.meet, if_pos rfl]
    · have hin : inB place near a ∧ inB place near b := by
        unfold inB
        rw [hP, hN]
        exact ⟨⟨a0, a1, a1⟩, b0, b1, b1⟩
      have h1 := hpl a a0 a1
      have h2 := hpl b b0 b1
      by_cases hlt : pl b < pl a
      · have ha0 : a ≠ 0 := fun e => by subst e; rw [F.pl0] at hlt; omega
        have hn : 0 ≤ nrO near a := ha.2.resolve_left ha0
        obtain ⟨s1, s2, s3, s4, s5⟩ := hS a hn
        have := F.plp _ s3
        obtain ⟨c, c1, c2, c3, c4⟩ := meet_tot F hP hpl hN hS d (nrO near a) b (by omega) ⟨s3, s5⟩ hb
        refine ⟨c, c1.step (fun k => ?_), .up _ hn c2, c3, fun u hu hv => ?_⟩
        · rw [graph_Doms.meet, if_neg e, if_pos hin, h1, h2, if_pos hlt, nrO_in a0 (by rw [hN]; exact a1)]
        · rcases hu.cases_ with rfl | ⟨_, hu⟩
          · have := (anc_le hS hv hb.1).2.1
            omega
          · exact c4 u hu hv
      · have hlt2 : pl a < pl b := by
          have : pl a ≠ pl b := fun h => e (F.inj a b ha.1 hb.1 h)
          omega
        have hb0 : b ≠ 0 := fun e => by subst e; rw [F.pl0] at hlt2; omega
        have hn : 0 ≤ nrO near b := hb.2.resolve_left hb0
        obtain ⟨s1, s2, s3, s4, s5⟩ := hS b hn
        have := F.plp _ s3
        obtain ⟨c, c1, c2, c3, c4⟩ := meet_tot F hP hpl hN hS d a (nrO near b) (by omega) ha ⟨s3, s5⟩
        refine ⟨c, c1.step (fun k => ?_), c2, .up _ hn c3, fun u hu hv => ?_⟩
        · rw [graph_Doms.meet, if_neg e, if_pos hin, h1, h2, if_neg hlt, nrO_in b0 (by rw [hN]; exact b1)]
        · rcases hv.cases_ with rfl | ⟨_, hv⟩
          · have := (anc_le hS hu ha.1).2.1
            omega
          · exact c4 u hu hv
/-- the test by which one that comes is passed over -/
theorem skip_iff (F : Fl N pl par R pr) (hpl : ∀ v : Int, 0 ≤ v → v < N → rd place v = pl v) (hN : near.length = N) {p : Int} (p0 : 0 ≤ p) (p1 : p < N) : (rd place p < 0 ∨ (p ≠ 0 ∧ rd near p < 0)) ↔ ¬ Good R (nrO near) p := by
  rw [hpl p p0 p1, ← nrO_in (l := near) p0 (by rw [hN]; exact p1)]
  constructor
  · rintro (h | ⟨h, h'⟩) g
    · have := F.plp p g.1; omega
    · rcases g.2 with e | e
      · exact h e
      · omega
  · intro g
    by_cases hR : R p
    · right
      refine ⟨fun e => g ⟨hR, .inl e⟩, ?_⟩
      by_cases h : 0 ≤ nrO near p
      · exact absurd ⟨hR, .inr h⟩ g
      · omega
    · exact .inl (F.pln p p0 p1 hR)
theorem best_a (F : Fl N pl par R pr) (hP : place.length = N) (hpl : ∀ v : Int, 0 ≤ v → v < N → rd place v = pl v) (hN : near.length = N) (hS : St pl R (nrO near)) :
    ∀ (ps : List Int) (best : Int), (∀ p ∈ ps, 0 ≤ p ∧ p < N) → Good R (nrO near) best →
      ∃ q, Tot (fun k => graph_Doms.best k place near ps best) q ∧ Good R (nrO near) q ∧ Anc (nrO near) q best ∧ (∀ p ∈ ps, Good R (nrO near) p → Anc (nrO near) q p) ∧ ∀ u, Anc (nrO near) u best → (∀ p ∈ ps, Good R (nrO near) p → Anc (nrO near) u p) → Anc (nrO near) u q
  | [], best, hr, hb => ⟨best, (Tot.pure _).congr (fun k => by rw [graph_Doms.best]), hb, .self, by simp, fun u h _ => h⟩
  | p :: ps, best, hr, hb => by
    obtain ⟨p0, p1⟩ := hr p List.mem_cons_self
    have hr' : ∀ p ∈ ps, 0 ≤ p ∧ p < N := fun x hx => hr x (List.mem_cons_of_mem _ hx)
    have hin : inB place near p := by
      unfold inB
      rw [hP, hN]
      exact ⟨p0, p1, p1⟩
    have hbn : ¬ best < 0 := by have := F.rg _ hb.1; omega
    by_cases g : Good R (nrO near) p
    · have hs : ¬ (rd place p < 0 ∨ (p ≠ 0 ∧ rd near p < 0)) := fun h => (skip_iff F hpl hN p0 p1).1 h g
      obtain ⟨c, c1, c2, c3, c4⟩ := meet_tot F hP hpl hN hS _ best p (Nat.lt_succ_self _) hb g
      obtain ⟨q, q1, q2, q3, q4, q5⟩ := best_a F hP hpl hN hS ps c hr' (anc_good hS c2 hb)
      refine ⟨q, ?_, q2, c2.trans q3, ?_, ?_⟩
      · refine (Tot.bind (b := fun k q => graph_Doms.best k place near ps q) c1 q1).congr (fun k => ?_)
        rw [graph_Doms.best, if_pos hin, if_neg hs, if_neg hbn]
      · intro x hx hg
        rcases List.mem_cons.1 hx with rfl | hx
        · exact c3.trans q3
        · exact q4 x hx hg
      · intro u hu hall
        exact q5 u (c4 u hu (hall p List.mem_cons_self g)) (fun x hx hg => hall x (List.mem_cons_of_mem _ hx) hg)
    · have hs : rd place p < 0 ∨ (p ≠ 0 ∧ rd near p < 0) := (skip_iff F hpl hN p0 p1).2 g
      obtain ⟨q, q1, q2, q3, q4, q5⟩ := best_a F hP hpl hN hS ps best hr' hb
      refine ⟨q, q1.congr (fun k => ?_), q2, q3, ?_, ?_⟩
      · rw [graph_Doms.best, if_pos hin, if_pos hs]
      · intro x hx hg
        rcases List.mem_cons.1 hx with rfl | hx
        · exact absurd hg g
        · exact q4 x hx hg
      · intro u hu hall
        exact q5 u hu (fun x hx hg => hall x (List.mem_cons_of_mem _ hx) hg)
theorem best_b (F : Fl N pl par R pr) (hP : place.length = N) (hpl : ∀ v : Int, 0 ≤ v → v < N → rd place v = pl v) (hN : near.length = N) (hS : St pl R (nrO near)) :
    ∀ (ps : List Int), (∀ p ∈ ps, 0 ≤ p ∧ p < N) → (∃ p ∈ ps, Good R (nrO near) p) → ∃ q, Tot (fun k => graph_Doms.best k place near ps (-1)) q ∧ Glb R (nrO near) ps q
  | [], _, h => by obtain ⟨p, hp, _⟩ := h; cases hp
  | p :: ps, hr, h => by
    obtain ⟨p0, p1⟩ := hr p List.mem_cons_self
    have hr' : ∀ p ∈ ps, 0 ≤ p ∧ p < N := fun x hx => hr x (List.mem_cons_of_mem _ hx)
    have hin : inB place near p := by
      unfold inB
      rw [hP, hN]
      exact ⟨p0, p1, p1⟩
    by_cases g : Good R (nrO near) p
    · have hs : ¬ (rd place p < 0 ∨ (p ≠ 0 ∧ rd near p < 0)) := fun h => (skip_iff F hpl hN p0 p1).1 h g
      obtain ⟨q, q1, q2, q3, q4, q5⟩ := best_a F hP hpl hN hS ps p hr' g
      refine ⟨q, q1.congr (fun k => ?_), ⟨q2, ?_, ?_⟩⟩
      · rw [graph_Doms.best, if_pos hin, if_neg hs, if_pos (by decide)]
      · intro x hx hg
        rcases List.mem_cons.1 hx with rfl | hx
        · exact q3
        · exact q4 x hx hg
      · intro u hall
        exact q5 u (hall p List.mem_cons_self g) (fun x hx hg => hall x (List.mem_cons_of_mem _ hx) hg)
    · have hs : rd place p < 0 ∨ (p ≠ 0 ∧ rd near p < 0) := (skip_iff F hpl hN p0 p1).2 g
      obtain ⟨q, q1, q2⟩ := best_b F hP hpl hN hS ps hr' (by
        obtain ⟨x, hx, hg⟩ := h
        rcases List.mem_cons.1 hx with rfl | hx
        · exact absurd hg g
        · exact ⟨x, hx, hg⟩)
      refine ⟨q, q1.congr (fun k => ?_), ⟨q2.good, ?_, ?_⟩⟩
      · rw [graph_Doms.best, if_pos hin, if_pos hs]
      · intro x hx hg
        rcases List.mem_cons.1 hx with rfl | hx
        · exact absurd hg g
        · exact q2.low x hx hg
      · intro u hall
        exact q2.top u (fun x hx hg => hall x (List.mem_cons_of_mem _ hx) hg)
variable {D : Int → Int → Prop} {order : List Int} {fr : List (List Int)}
/-- One pass: what it comes to. -/
theorem pass_tot (F : Fl N pl par R pr) (hp0 : par 0 < 0) (hD : ∀ d v p, D d v → d ≠ v → p ∈ pr v → R p → D d p) (hP : place.length = N) (hpl : ∀ v : Int, 0 ≤ v → v < N → rd place v = pl v)
    (hfr : fr.length = N) (hpr : ∀ v : Int, 0 ≤ v → v < N → rd_L1 fr v = pr v) (hord : ∀ (i : Nat) (h : i < order.length), R order[i] ∧ pl order[i] = i) :
    ∀ (d i : Nat) (near : List Int) (ag : Bool), d = order.length - i → 1 ≤ i → i ≤ order.length → near.length = N → Mo near → Inv pl par R pr D (nrO near) i →
      ∃ near' ag', Tot (fun k => graph_Doms.pass k place fr (order.drop i) near ag) (near', ag') ∧ near'.length = N ∧ Mo near' ∧ Inv pl par R pr D (nrO near') order.length ∧
        (ag = true → ag' = true) ∧ (ag' = false → near' = near ∧ ∀ c ∈ order.drop i, ∃ z, Glb R (nrO near) (pr c) z ∧ nrO near c = z) ∧ far pl N (nrO near') ≤ far pl N (nrO near) ∧ (ag = false → ag' = true → far pl N (nrO near') < far pl N (nrO near))
  | 0, i, near, ag, hd, h1, hi, hN, M, I => by
    have e : i = order.length := by omega
    subst e
    refine ⟨near, ag, (Tot.pure _).congr (fun k => ?_), hN, M, I, id, fun _ => ⟨rfl, by simp⟩, Nat.le_refl _, fun h h' => by rw [h] at h'; cases h'⟩
    rw [List.drop_length, graph_Doms.pass]
  | d + 1, i, near, ag, hd, h1, hi, hN, M, I => by
    have hlt : i < order.length := by omega
    obtain ⟨hcR, hcp⟩ := hord i hlt
    have hdr := List.drop_eq_getElem_cons hlt
    generalize order[i] = c at hcR hcp hdr
    obtain ⟨c0, c1⟩ := F.rg c hcR
    have hc0 : c ≠ 0 := fun e => by subst e; rw [F.pl0] at hcp; omega
    obtain ⟨hq1, hq2, hq3⟩ := F.par c hcR hc0
    have hgp : Good R (nrO near) (par c) := by
      refine ⟨hq1, ?_⟩
      by_cases e : par c = 0
      · exact .inl e
      · have h0 := F.plp _ hq1
        have : pl (par c) ≠ 0 := fun h => e (F.inj _ _ hq1 F.h0 (by rw [h, F.pl0]))
        exact .inr (I.seen _ hq1 (by omega) (by omega))
    obtain ⟨z, z1, G⟩ := best_b F hP hpl hN I.st (pr c) (fun p hp => F.prg c p hp) ⟨par c, hq3, hgp⟩
    have hcond : 0 ≤ c ∧ c < fr.length ∧ c < near.length := ⟨c0, by rw [hfr]; exact c1, by rw [hN]; exact c1⟩
    have hrdc : nrO near c = rd near c := nrO_in c0 (by rw [hN]; exact c1)
    have I' : Inv pl par R pr D (nrO near) (pl c) := by rw [hcp]; exact I
    by_cases e : rd near c = z
    · obtain ⟨I2, _⟩ := Inv.step F hp0 hD I' hcR hc0 G (nr' := nrO near) (by rw [hrdc, e]) (fun _ _ => rfl)
      have I3 : Inv pl par R pr D (nrO near) ((i + 1 : Nat) : Int) := by
        rw [hcp] at I2
        exact I2
      obtain ⟨near', ag', t1, t2, tm, t3, t4, t5, t6, t7⟩ := pass_tot F hp0 hD hP hpl hfr hpr hord d (i + 1) near ag (by omega) (by omega) (by omega) hN M I3
      refine ⟨near', ag', ?_, t2, tm, t3, t4, ?_, t6, t7⟩
      · refine (Tot.bind (b := fun k q => if rd near c = q then graph_Doms.pass k place fr (order.drop (i + 1)) near ag else graph_Doms.pass k place fr (order.drop (i + 1)) (near.set c.toNat q) true) z1 (Tot.pos e t1)).congr (fun k => ?_)
        rw [hdr, graph_Doms.pass, if_pos hcond, hpr c c0 c1]
      · intro h
        obtain ⟨u1, u2⟩ := t5 h
        refine ⟨u1, fun x hx => ?_⟩
        rw [hdr] at hx
        rcases List.mem_cons.1 hx with rfl | hx
        · exact ⟨z, G, by rw [hrdc, e]⟩
        · exact u2 x hx
    · obtain ⟨e1, e2⟩ := nrO_set (l := near) (x := z) c0 (by rw [hN]; exact c1)
      obtain ⟨I2, hdown⟩ := Inv.step F hp0 hD I' hcR hc0 G (nr' := nrO (near.set c.toNat z)) e1 e2
      have I3 : Inv pl par R pr D (nrO (near.set c.toNat z)) ((i + 1 : Nat) : Int) := by
        rw [hcp] at I2
        exact I2
      obtain ⟨near', ag', t1, t2, tm, t3, t4, t5, t6, t7⟩ := pass_tot F hp0 hD hP hpl hfr hpr hord d (i + 1) (near.set c.toNat z) true (by omega) (by omega) (by omega) (by rw [List.length_set]; exact hN) (M.set_ c0 (by rw [hN]; exact c1) (F.rg z G.good.1).1) I3
      have hz0 := F.rg z G.good.1
      have hzp := F.plp z G.good.1
      have hfar : far pl N (nrO (near.set c.toNat z)) < far pl N (nrO near) := by
        refine far_turn c0 c1 e2 (by rw [e1]; exact hz0.1) (by rw [e1]; exact hzp.1) (by rw [e1]; exact hzp.2) (fun h => ?_)
        rw [e1]
        exact hdown h (by rw [hrdc]; exact e)
      refine ⟨near', ag', ?_, t2, tm, t3, fun _ => t4 rfl, fun h => ?_, by omega, fun _ _ => by omega⟩
      · refine (Tot.bind (b := fun k q => if rd near c = q then graph_Doms.pass k place fr (order.drop (i + 1)) near ag else graph_Doms.pass k place fr (order.drop (i + 1)) (near.set c.toNat q) true) z1 (Tot.neg e t1)).congr (fun k => ?_)
        rw [hdr, graph_Doms.pass, if_pos hcond, hpr c c0 c1]
      · rw [t4 rfl] at h; cases h
/-- The passes end, and the table is at rest. -/
theorem lo_tot (F : Fl N pl par R pr) (hp0 : par 0 < 0) (hD : ∀ d v p, D d v → d ≠ v → p ∈ pr v → R p → D d p) (hP : place.length = N) (hpl : ∀ v : Int, 0 ≤ v → v < N → rd place v = pl v)
    (hfr : fr.length = N) (hpr : ∀ v : Int, 0 ≤ v → v < N → rd_L1 fr v = pr v) (hord : ∀ (i : Nat) (h : i < order.length), R order[i] ∧ pl order[i] = i) (hol : 1 ≤ order.length) (hall : ∀ v, R v → pl v < order.length) :
    ∀ (d : Nat) (near : List Int), far pl N (nrO near) < d → near.length = N → Mo near → Inv pl par R pr D (nrO near) 1 →
      ∃ near', Tot (fun k => graph_Doms.lo k place fr (order.drop 1) near) near' ∧ near'.length = N ∧ Mo near' ∧ Inv pl par R pr D (nrO near') order.length ∧ ∀ c ∈ order.drop 1, ∃ z, Glb R (nrO near') (pr c) z ∧ nrO near' c = z
  | 0, near, hd, _, _, _ => by omega
  | d + 1, near, hd, hN, M, I => by
    obtain ⟨near', ag', t1, t2, tm, t3, t4, t5, t6, t7⟩ := pass_tot F hp0 hD hP hpl hfr hpr hord _ 1 near false rfl (Nat.le_refl _) hol hN M I
    cases ag' with
    | false =>
      obtain ⟨e, h⟩ := t5 rfl
      subst e
      refine ⟨near', ?_, t2, tm, t3, h⟩
      refine (Tot.bind (b := fun k (r : List Int × Bool) => if r.2 = true then graph_Doms.lo k place fr (order.drop 1) r.1 else some r.1) t1 (Tot.neg (fun h => by cases h) (Tot.pure _))).step (fun k => ?_)
      rw [graph_Doms.lo]
    | true =>
      have hlt := t7 rfl rfl
      obtain ⟨near2, u1, u2, um, u3, u4⟩ := lo_tot F hp0 hD hP hpl hfr hpr hord hol hall d near' (by omega) t2 tm (t3.again F hp0 hall)
      refine ⟨near2, ?_, u2, um, u3, u4⟩
      refine (Tot.bind (b := fun k (r : List Int × Bool) => if r.2 = true then graph_Doms.lo k place fr (order.drop 1) r.1 else some r.1) t1 (Tot.pos rfl u1)).step (fun k => ?_)
      rw [graph_Doms.lo]
end

/-! ### the places -/
theorem places_tot : ∀ (bs : List Int) (i : Int) (p : List Int), bs.Nodup → (∀ b ∈ bs, 0 ≤ b ∧ b < p.length) →
    ∃ q, graph_Doms.places bs i p = some q ∧ q.length = p.length ∧ (∀ (j : Nat) (h : j < bs.length), rd q bs[j] = i + j) ∧ ∀ v : Int, 0 ≤ v → v < p.length → v ∉ bs → rd q v = rd p v
  | [], i, p, _, _ => ⟨p, rfl, rfl, fun j h => by simp at h, fun v _ _ _ => rfl⟩
  | b :: bs, i, p, hd, hr => by
    obtain ⟨b0, b1⟩ := hr b List.mem_cons_self
    obtain ⟨q, q1, q2, q3, q4⟩ := places_tot bs (i + 1) (p.set b.toNat i) (List.nodup_cons.1 hd).2 (fun x hx => by rw [List.length_set]; exact hr x (List.mem_cons_of_mem _ hx))
    rw [List.length_set] at q2 q4
    refine ⟨q, ?_, q2, ?_, ?_⟩
    · unfold graph_Doms.places
      rw [if_pos ⟨b0, b1⟩]
      exact q1
    · intro j h
      cases j with
      | zero =>
        simp only [List.getElem_cons_zero, Int.natCast_zero, Int.add_zero]
        rw [q4 b b0 b1 (List.nodup_cons.1 hd).1, rd_set b0 b1 b0 b1, if_pos rfl]
      | succ j =>
        simp only [List.getElem_cons_succ]
        rw [q3 j (by simpa using h)]
        omega
    · intro v v0 v1 hv
      rw [q4 v v0 v1 (fun h => hv (List.mem_cons_of_mem _ h)), rd_set b0 b1 v0 v1, if_neg (fun e => hv (by rw [e]; exact List.mem_cons_self))]
end Go.Proofs.Ytafjbebbmfihaaa.P
