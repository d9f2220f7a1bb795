/- graph.Doms ends, and what its table says, in plain Lean; no condition. -/
import Derived.Test.YtafjbebbmfihaaaGFrom
namespace Go.Proofs.Ytafjbebbmfihaaa.P
open Go.RowKit Go.Proofs.YtafjbebbmfihaaaW.PrintWords Go.Proofs.YtafjbebbmfihaaaW.PrintLast Go.Proofs.YtafjbebbmfihaaaW.PrintMore
set_option linter.unusedVariables false
set_option linter.unusedSimpArgs false
set_option linter.unusedSectionVars false

/-- u stands on the way that goes from v by nr. -/
inductive Anc (nr : Int → Int) (u : Int) : Int → Prop
  | self : Anc nr u u
  | up (v : Int) : 0 ≤ nr v → Anc nr u (nr v) → Anc nr u v
theorem Anc.trans {nr : Int → Int} {u v w : Int} (h : Anc nr v w) (k : Anc nr u v) : Anc nr u w := by
  induction h with
  | self => exact k
  | up w h0 _ ih => exact Anc.up _ h0 ih
theorem Anc.cases_ {nr : Int → Int} {u v : Int} (h : Anc nr u v) : u = v ∨ (0 ≤ nr v ∧ Anc nr u (nr v)) := by
  cases h with
  | self => exact .inl rfl
  | up _ h0 h1 => exact .inr ⟨h0, h1⟩

/-- The blocks, their places in the order, who comes to each; par: one that comes and stands ahead. -/
structure Fl (N : Nat) (pl par : Int → Int) (R : Int → Prop) (pr : Int → List Int) : Prop where
  h0 : R 0
  pl0 : pl 0 = 0
  rg : ∀ v, R v → 0 ≤ v ∧ v < N
  plp : ∀ v, R v → 0 ≤ pl v ∧ pl v < N
  pln : ∀ v : Int, 0 ≤ v → v < N → ¬ R v → pl v < 0
  inj : ∀ u v, R u → R v → pl u = pl v → u = v
  par : ∀ v, R v → v ≠ 0 → R (par v) ∧ pl (par v) < pl v ∧ par v ∈ pr v
  prg : ∀ v p, p ∈ pr v → 0 ≤ p ∧ p < N
/-- The table at any time: each leads to one that stands ahead, up to the block 0. -/
def St (pl : Int → Int) (R : Int → Prop) (nr : Int → Int) : Prop := ∀ v, 0 ≤ nr v → R v ∧ v ≠ 0 ∧ R (nr v) ∧ pl (nr v) < pl v ∧ (nr v = 0 ∨ 0 ≤ nr (nr v))
def Pd (nr : Int → Int) (v : Int) : Prop := v = 0 ∨ 0 ≤ nr v
def Good (R : Int → Prop) (nr : Int → Int) (v : Int) : Prop := R v ∧ Pd nr v
section
variable {N : Nat} {pl par nr nr' : Int → Int} {R : Int → Prop} {pr : Int → List Int} {u v w c z x : Int}
theorem anc_le (hS : St pl R nr) (h : Anc nr u v) : R v → R u ∧ pl u ≤ pl v ∧ (u = v ∨ pl u < pl v) := by
  induction h with
  | self => exact fun hv => ⟨hv, Int.le_refl _, .inl rfl⟩
  | up v h0 _ ih =>
    intro hv
    obtain ⟨_, _, h3, h4, _⟩ := hS v h0
    obtain ⟨a, b, _⟩ := ih h3
    exact ⟨a, by omega, .inr (by omega)⟩
theorem anc_pd (hS : St pl R nr) (h : Anc nr u v) : Pd nr v → Pd nr u := by
  induction h with
  | self => exact id
  | up v h0 _ ih => exact fun _ => ih (hS v h0).2.2.2.2
theorem anc_good (hS : St pl R nr) (h : Anc nr u v) (hv : Good R nr v) : Good R nr u := ⟨(anc_le hS h hv.1).1, anc_pd hS h hv.2⟩
theorem anc_lin (hS : St pl R nr) (h : Anc nr w v) : R v → Anc nr u v → pl u ≤ pl w → Anc nr u w := by
  induction h with
  | self => exact fun _ h _ => h
  | up v h0 hw ih =>
    intro hv hu hle
    obtain ⟨_, _, h3, h4, _⟩ := hS v h0
    rcases hu.cases_ with rfl | ⟨_, h⟩
    · have := (anc_le hS hw h3).2.1
      omega
    · exact ih h3 h hle
theorem anc_zero (F : Fl N pl par R pr) (hS : St pl R nr) : ∀ (d : Nat) (v : Int), (pl v).toNat < d → Good R nr v → Anc nr 0 v
  | 0, v, hd, _ => by omega
  | d + 1, v, hd, hv => by
    rcases hv.2 with rfl | h
    · exact .self
    · obtain ⟨h1, h2, h3, h4, h5⟩ := hS v h
      have := F.plp _ h3
      exact .up _ h (anc_zero F hS d (nr v) (by omega) ⟨h3, h5⟩)

/-! ### one entry is turned: c leads to z from now on -/
variable (hS : St pl R nr) (hS' : St pl R nr') (hR : R c) (hc0 : c ≠ 0) (hz : nr' c = z) (hzl : pl z < pl c) (hzR : R z) (hne : ∀ v, v ≠ c → nr' v = nr v)
include hS hS' hR hc0 hz hzl hzR hne
theorem turn_below (h : Anc nr u x) : R x → pl c ≤ pl u → Anc nr' u x := by
  induction h with
  | self => exact fun _ _ => .self
  | up v h0 hu ih =>
    intro hv hle
    obtain ⟨_, _, h3, h4, _⟩ := hS v h0
    have h5 := (anc_le hS hu h3).2.1
    have hvc : v ≠ c := fun e => by subst e; omega
    have e := hne v hvc
    exact .up _ (by rw [e]; exact h0) (by rw [e]; exact ih h3 hle)
theorem turn_above (h : Anc nr u x) : R x → pl x < pl c → Anc nr' u x := by
  induction h with
  | self => exact fun _ _ => .self
  | up v h0 hu ih =>
    intro hv hlt
    obtain ⟨_, _, h3, h4, _⟩ := hS v h0
    have hvc : v ≠ c := fun e => by subst e; omega
    have e := hne v hvc
    exact .up _ (by rw [e]; exact h0) (by rw [e]; exact ih h3 (by omega))
theorem turn_above' (h : Anc nr' u x) : R x → pl x < pl c → Anc nr u x := by
  induction h with
  | self => exact fun _ _ => .self
  | up v h0 hu ih =>
    intro hv hlt
    obtain ⟨_, _, h3, h4, _⟩ := hS' v h0
    have hvc : v ≠ c := fun e => by subst e; omega
    have e := hne v hvc
    rw [e] at h0 h3 h4 ih
    exact .up _ h0 (ih h3 (by omega))
theorem turn_apart (h : Anc nr u x) : ¬ Anc nr c x → Anc nr' u x := by
  induction h with
  | self => exact fun _ => .self
  | up v h0 hu ih =>
    intro hn
    have hvc : v ≠ c := fun e => hn (e ▸ Anc.self)
    have e := hne v hvc
    exact .up _ (by rw [e]; exact h0) (by rw [e]; exact ih (fun h => hn (.up _ h0 h)))
/-- What is on a way now was on it. -/
theorem turn_less (hold : 0 ≤ nr c → Anc nr z (nr c)) (h : Anc nr' u x) : Good R nr x → Anc nr u x := by
  induction h with
  | self => exact fun _ => .self
  | up v h0 hu ih =>
    intro hv
    by_cases e : v = c
    · subst e
      have h1 : 0 ≤ nr v := by
        rcases hv.2 with h | h
        · exact absurd h hc0
        · exact h
      have h2 := hold h1
      rw [hz] at ih
      have hg : Good R nr (nr v) := ⟨(hS v h1).2.2.1, (hS v h1).2.2.2.2⟩
      exact .up _ h1 (h2.trans (ih (anc_good hS h2 hg)))
    · have e2 := hne v e
      rw [e2] at h0 ih
      exact .up _ h0 (ih ⟨(hS v h0).2.2.1, (hS v h0).2.2.2.2⟩)
end

/-! ### the table on the way through a pass -/
/-- i: the place that is next in this pass; D: d is passed on every way to v. -/
structure Inv (pl par : Int → Int) (R : Int → Prop) (pr : Int → List Int) (D : Int → Int → Prop) (nr : Int → Int) (i : Int) : Prop where
  st : St pl R nr
  seen : ∀ v, R v → 1 ≤ pl v → pl v < i → 0 ≤ nr v
  way : ∀ v, 0 ≤ nr v → Anc par (nr v) v
  pq : ∀ v, 0 ≤ nr v → Pd nr (par v)
  K : ∀ x, 0 ≤ nr x → ∀ u, (∀ p ∈ pr x, Good R nr p → Anc nr u p) → pl u ≤ pl (nr x)
  L1 : ∀ x, 0 ≤ nr x → pl x < i → Anc nr (nr x) (par x)
  L2 : ∀ x, 0 ≤ nr x → i ≤ pl x → (∀ u, Anc nr u (par x) → pl u ≤ pl (nr x) → Anc nr u (nr x)) ∧ (Anc nr (nr x) (par x) ∨ pl (nr x) < i)
  dom : ∀ d x, Good R nr x → D d x → Anc nr d x
/-- z is the deepest that is on the ways of all good ones that come to c. -/
structure Glb (R : Int → Prop) (nr : Int → Int) (ps : List Int) (z : Int) : Prop where
  good : Good R nr z
  low : ∀ p ∈ ps, Good R nr p → Anc nr z p
  top : ∀ u, (∀ p ∈ ps, Good R nr p → Anc nr u p) → Anc nr u z
section
variable {N : Nat} {pl par nr : Int → Int} {R : Int → Prop} {pr : Int → List Int} {D : Int → Int → Prop}
theorem par_above (F : Fl N pl par R pr) (hp0 : par 0 < 0) {u v : Int} (h : Anc par u v) : R v → R u ∧ pl u ≤ pl v := by
  induction h with
  | self => exact fun h => ⟨h, Int.le_refl _⟩
  | up v h0 _ ih =>
    intro hv
    have hv0 : v ≠ 0 := fun e => by subst e; omega
    obtain ⟨a, b, _⟩ := F.par v hv hv0
    have := ih a
    exact ⟨this.1, by omega⟩
/-- the way by par from x up to c avoids what stands ahead of c -/
theorem dom_par (F : Fl N pl par R pr) (hp0 : par 0 < 0) (hD : ∀ d v p, D d v → d ≠ v → p ∈ pr v → R p → D d p) {c x d : Int} (h : Anc par c x) : R x → pl d < pl c → D d x → D d c := by
  induction h with
  | self => exact fun _ _ h => h
  | up v h0 hc ih =>
    intro hv hlt hd
    have hv0 : v ≠ 0 := fun e => by subst e; omega
    obtain ⟨a, b, e⟩ := F.par v hv hv0
    have hle := (par_above F hp0 hc a).2
    exact ih a hlt (hD d v (par v) hd (fun e => by subst e; omega) e a)
theorem anc_par (F : Fl N pl par R pr) (hS : St pl R nr) (hw : ∀ v, 0 ≤ nr v → Anc par (nr v) v) {u v : Int} (h : Anc nr u v) : Anc par u v := by
  induction h with
  | self => exact .self
  | up v h0 _ ih => exact (hw v h0).trans ih
theorem good_mono {nr' : Int → Int} {c z v : Int} (hz : nr' c = z) (hz0 : 0 ≤ z) (hne : ∀ v, v ≠ c → nr' v = nr v) (h : Good R nr v) : Good R nr' v := by
  refine ⟨h.1, ?_⟩
  rcases h.2 with h | h
  · exact .inl h
  · by_cases e : v = c
    · subst e; exact .inr (by rw [hz]; exact hz0)
    · exact .inr (by rw [hne v e]; exact h)
/-- One block of a pass. -/
theorem Inv.step (F : Fl N pl par R pr) (hp0 : par 0 < 0) (hD : ∀ d v p, D d v → d ≠ v → p ∈ pr v → R p → D d p) {c z : Int} (I : Inv pl par R pr D nr (pl c)) (hR : R c) (hc0 : c ≠ 0) (G : Glb R nr (pr c) z)
    {nr' : Int → Int} (hz : nr' c = z) (hne : ∀ v, v ≠ c → nr' v = nr v) : Inv pl par R pr D nr' (pl c + 1) ∧ (0 ≤ nr c → nr c ≠ z → pl z < pl (nr c)) := by
  obtain ⟨hpR, hpl, hpm⟩ := F.par c hR hc0
  have hS := I.st
  have hparG : Good R nr (par c) := by
    refine ⟨hpR, ?_⟩
    by_cases e : par c = 0
    · exact .inl e
    · have h0 := F.plp _ hpR
      have : pl (par c) ≠ 0 := fun h => e (F.inj _ _ hpR F.h0 (by rw [h, F.pl0]))
      exact .inr (I.seen _ hpR (by omega) hpl)
  have hzp := G.low _ hpm hparG
  have hzR := G.good.1
  have hz0 : 0 ≤ z := (F.rg z hzR).1
  have hzl : pl z < pl c := by
    have := (anc_le hS hzp hpR).2.1
    omega
  have hzc : z ≠ c := fun e => by subst e; omega
  have hold : 0 ≤ nr c → Anc nr z (nr c) ∧ pl z ≤ pl (nr c) := by
    intro h
    have hk := I.K c h z (fun p hp hg => G.low p hp hg)
    exact ⟨(I.L2 c h (Int.le_refl _)).1 z hzp hk, hk⟩
  have hS' : St pl R nr' := by
    intro v hv
    by_cases e : v = c
    · subst e
      rw [hz] at hv ⊢
      refine ⟨hR, hc0, hzR, hzl, ?_⟩
      rcases G.good.2 with h | h
      · exact .inl h
      · exact .inr (by rw [hne z hzc]; exact h)
    · rw [hne v e] at hv ⊢
      obtain ⟨a1, a2, a3, a4, a5⟩ := hS v hv
      refine ⟨a1, a2, a3, a4, ?_⟩
      rcases a5 with h | h
      · exact .inl h
      · by_cases e2 : nr v = c
        · rw [e2, hz]; exact .inr hz0
        · rw [hne _ e2]; exact .inr h
  have less : ∀ {u x : Int}, Anc nr' u x → Good R nr x → Anc nr u x := fun h hg => turn_less hS hS' hR hc0 hz hzl hzR hne (fun h => (hold h).1) h hg
  have below : ∀ {u x : Int}, Anc nr u x → R x → pl c ≤ pl u → Anc nr' u x := fun h => turn_below hS hS' hR hc0 hz hzl hzR hne h
  have above : ∀ {u x : Int}, Anc nr u x → R x → pl x < pl c → Anc nr' u x := fun h => turn_above hS hS' hR hc0 hz hzl hzR hne h
  have above' : ∀ {u x : Int}, Anc nr' u x → R x → pl x < pl c → Anc nr u x := fun h => turn_above' hS hS' hR hc0 hz hzl hzR hne h
  have apart : ∀ {u x : Int}, Anc nr u x → ¬ Anc nr c x → Anc nr' u x := fun h => turn_apart hS hS' hR hc0 hz hzl hzR hne h
  have gm : ∀ {v : Int}, Good R nr v → Good R nr' v := fun h => good_mono hz hz0 hne h
  -- what an entry x that is not c was
  have old : ∀ x, x ≠ c → 0 ≤ nr' x → 0 ≤ nr x := fun x e h => by rwa [hne x e] at h
  have parG : ∀ x, 0 ≤ nr x → Good R nr (par x) := fun x h => ⟨(F.par x (hS x h).1 (hS x h).2.1).1, I.pq x h⟩
  refine ⟨⟨hS', ?_, ?_, ?_, ?_, ?_, ?_, ?_⟩, ?_⟩
  · intro v hv h1 h2
    by_cases e : v = c
    · rw [e, hz]; exact hz0
    · rw [hne v e]
      refine I.seen v hv h1 ?_
      have : pl v ≠ pl c := fun h => e (F.inj v c hv hR h)
      omega
  · intro v hv
    by_cases e : v = c
    · subst e
      rw [hz]
      have h0 : 0 ≤ par v := (F.rg _ hpR).1
      exact .up _ h0 (anc_par F hS I.way hzp)
    · rw [hne v e] at hv ⊢
      exact I.way v hv
  · intro v hv
    by_cases e : v = c
    · subst e; exact (gm hparG).2
    · exact (gm (parG v (old v e hv))).2
  · intro x hx u hu
    by_cases e : x = c
    · subst e
      rw [hz]
      refine (anc_le hS (G.top u (fun p hp hg => less (hu p hp (gm hg)) hg)) hzR).2.1
    · rw [hne x e]
      exact I.K x (old x e hx) u (fun p hp hg => less (hu p hp (gm hg)) hg)
  · intro x hx hlt
    by_cases e : x = c
    · subst e
      rw [hz]
      exact above hzp hpR hpl
    · have ho := old x e hx
      rw [hne x e]
      obtain ⟨a1, a2, _⟩ := hS x ho
      have : pl x ≠ pl c := fun h => e (F.inj x c a1 hR h)
      obtain ⟨b1, b2, _⟩ := F.par x a1 a2
      exact above (I.L1 x ho (by omega)) b1 (by omega)
  · intro x hx hle
    have e : x ≠ c := fun e => by subst e; omega
    have ho := old x e hx
    rw [hne x e]
    obtain ⟨la, lb⟩ := I.L2 x ho (by omega)
    obtain ⟨a1, a2, a3, a4, a5⟩ := hS x ho
    have hg := parG x ho
    refine ⟨?_, ?_⟩
    · intro u hu hul
      have h1 := la u (less hu hg) hul
      by_cases hcn : Anc nr c (nr x)
      · have hcl := (anc_le hS hcn a3).2.1
        by_cases hcu : pl c ≤ pl u
        · exact below h1 a3 hcu
        · have hnp : Anc nr (nr x) (par x) := lb.resolve_right (by omega)
          have hcp : Anc nr' c (par x) := below (hnp.trans hcn) hg.1 (Int.le_refl _)
          exact (below hcn a3 (Int.le_refl _)).trans (anc_lin hS' hcp hg.1 hu (by omega))
      · exact apart h1 hcn
    · rcases lb with h | h
      · by_cases hcu : pl c ≤ pl (nr x)
        · exact .inl (below h hg.1 hcu)
        · exact .inr (by omega)
      · exact .inr (by omega)
  · intro d x hx hd
    have key : D d c → Anc nr' d c := by
      intro h
      by_cases e : d = c
      · subst e; exact .self
      · have h2 : Anc nr d z := G.top d (fun p hp hg => I.dom d p hg (hD d c p h e hp hg.1))
        exact .up _ (by rw [hz]; exact hz0) (by rw [hz]; exact above h2 hzR hzl)
    by_cases e : x = c
    · rw [e]; rw [e] at hd; exact key hd
    · have hgx : Good R nr x := by
        refine ⟨hx.1, ?_⟩
        rcases hx.2 with h | h
        · exact .inl h
        · exact .inr (old x e h)
      have h1 := I.dom d x hgx hd
      by_cases hcx : Anc nr c x
      · by_cases hcd : pl c ≤ pl d
        · exact below h1 hx.1 hcd
        · have h2 := dom_par F hp0 hD (anc_par F hS I.way hcx) hx.1 (show pl d < pl c by omega) hd
          exact (below hcx hx.1 (Int.le_refl _)).trans (key h2)
      · exact apart h1 hcx
  · intro h hn
    obtain ⟨h1, h2⟩ := hold h
    have := (anc_le hS h1 (hS c h).2.2.1).2.2
    rcases this with e | e
    · exact absurd e.symm hn
    · exact e
/-- The next pass. -/
theorem Inv.again (F : Fl N pl par R pr) (hp0 : par 0 < 0) {i : Int} (I : Inv pl par R pr D nr i) (hi : ∀ v, R v → pl v < i) : Inv pl par R pr D nr 1 := by
  refine ⟨I.st, fun v _ h1 h2 => by omega, I.way, I.pq, I.K, fun x hx hlt => ?_, fun x hx hle => ?_, I.dom⟩
  · exact I.L1 x hx (hi x (I.st x hx).1)
  · have h1 := I.L1 x hx (hi x (I.st x hx).1)
    obtain ⟨a1, a2, _⟩ := I.st x hx
    exact ⟨fun u hu hul => anc_lin I.st h1 (F.par x a1 a2).1 hu hul, .inl h1⟩
theorem Inv.first (F : Fl N pl par R pr) (hn : ∀ v, nr v < 0) (hD0 : ∀ d, D d 0 → d = 0) : Inv pl par R pr D nr 1 := by
  have no : ∀ {v : Int} {P : Prop}, 0 ≤ nr v → P := fun {v} {P} h => by have := hn v; omega
  refine ⟨fun v h => no h, fun v _ h1 h2 => by omega, fun v h => no h, fun v h => no h, fun v h => no h, fun v h => no h, fun v h => no h, fun d x hx hd => ?_⟩
  rcases hx.2 with h | h
  · subst h
    rw [hD0 d hd]
    exact .self
  · exact no h
end
end Go.Proofs.Ytafjbebbmfihaaa.P
