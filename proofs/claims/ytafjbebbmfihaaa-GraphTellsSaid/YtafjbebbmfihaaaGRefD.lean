/- The document's From and Doms, and what can be come to: the same tables as the program's, in plain Lean; no condition. -/
import Derived.Test.YtafjbebbmfihaaaGRef
namespace Go.Proofs.Ytafjbebbmfihaaa.P
open Go.RowKit Go.Proofs.YtafjbebbmfihaaaW.PrintWords Go.Proofs.YtafjbebbmfihaaaW.PrintLast Go.Proofs.YtafjbebbmfihaaaW.PrintMore
set_option linter.unusedVariables false
set_option linter.unusedSimpArgs false
set_option linter.unusedSectionVars false

section
variable {n : Int} {ts : List (List Int)} {N : Nat}
/-! ### From -/
theorem rfrom_l2 (x5 : List (List Int)) (i : Nat) (x7 : List Int) (k8 : Nat) (ws : List Int) (hwl : ws.length < 1000000) (h7 : x7.length < 1000000) (h8 : k8 < 1000000) {r : List (List Int)}
    (cont : Tot (fun k => ferruleref11_From.l1 k n ts x5 (i : Int) (x7 ++ if (i : Int) ∈ ws then [(k8 : Int)] else []) ((k8 + 1 : Nat) : Int)) r) :
    ∀ (e j : Nat) (b : Bool), e = ws.length - j → j ≤ ws.length → (b = true ↔ (i : Int) ∈ ws.take j) → Tot (fun k => ferruleref11_From.l2 k n ts x5 (i : Int) x7 (k8 : Int) ws b (j : Int)) r := by
  intro e
  induction e with
  | zero =>
    intro j b he hj hb
    have e : j = ws.length := by omega
    subst e
    rw [List.take_length] at hb
    by_cases c : b = true
    · rw [if_pos (hb.1 c)] at cont
      refine cont.step (fun k => ?_)
      rw [ferruleref11_From.l2, if_neg (by omega), if_pos c, if_pos (by omega), w64n _ (by omega)]
    · rw [if_neg (fun h => c (hb.2 h)), List.append_nil] at cont
      refine cont.step (fun k => ?_)
      rw [ferruleref11_From.l2, if_neg (by omega), if_neg c, w64n _ (by omega)]
  | succ e ih =>
    intro j b he hj hb
    have hlt : j < ws.length := by omega
    have hrd := rd_at hlt
    have htk := take_succ_mem hlt (i : Int)
    generalize ws[j] = x at hrd htk
    by_cases c : b = true
    · have ih := ih (j + 1) true (by omega) hlt ⟨fun _ => htk.2 (.inl (hb.1 c)), fun _ => rfl⟩
      refine ih.step (fun k => ?_)
      rw [ferruleref11_From.l2, if_pos (by omega), if_pos c, w64n _ (by omega)]
    · have ih := ih (j + 1) (x == (i : Int)) (by omega) hlt (by
        rw [htk, beq_iff_eq]
        constructor
        · exact fun h => .inr h.symm
        · rintro (h | h)
          · exact absurd (hb.2 h) c
          · exact h.symm)
      refine ih.step (fun k => ?_)
      rw [ferruleref11_From.l2, if_pos (by omega), if_neg c, if_pos (by omega), hrd, w64n _ (by omega)]
theorem rfrom_l1 (hn : n = N) (hN : N < 1000000) (hts : ∀ i, (rd_L1 ts i).length < 1000000) (x5 : List (List Int)) (i : Nat) (h5 : x5.length < 1000000) (hi : i < 1000000) {r : List (List Int)}
    (cont : Tot (fun k => ferruleref11_From.l0 k n ts (x5 ++ [inTo n ts N i]) ((i + 1 : Nat) : Int)) r) :
    ∀ (e k8 : Nat), e = N - k8 → k8 ≤ N → Tot (fun k => ferruleref11_From.l1 k n ts x5 (i : Int) (inTo n ts k8 i) (k8 : Int)) r := by
  intro e
  induction e with
  | zero =>
    intro k8 he hk
    have e : k8 = N := by omega
    subst e
    refine cont.step (fun k => ?_)
    rw [ferruleref11_From.l1, if_neg (by omega), if_pos (by omega), w64n _ (by omega)]
  | succ e ih =>
    intro k8 he hk
    have ih := ih (k8 + 1) (by omega) (by omega)
    have hws := rways_tot n ts (k8 : Int) (by omega) (hts _)
    have hwl := Wy_length n ts (k8 : Int)
    have hwt := hts (k8 : Int)
    have hil : (inTo n ts k8 i).length < 1000000 := by
      rw [inTo_length]
      have := cnt_le (fun a => (i : Int) ∈ Wy n ts (a : Int)) k8
      omega
    rw [inTo_succ] at ih
    have h2 := rfrom_l2 x5 i (inTo n ts k8 i) k8 (Wy n ts (k8 : Int)) (by omega) hil (by omega) ih _ 0 false rfl (Nat.zero_le _) (by simp)
    have hb := Tot.bind (b := fun k t279 => ferruleref11_From.l2 k n ts x5 (i : Int) (inTo n ts k8 i) (k8 : Int) t279 false 0) hws h2
    refine hb.step (fun k => ?_)
    rw [ferruleref11_From.l1, if_pos (by omega)]
theorem rfrom_l0 (hn : n = N) (hN : N < 1000000) (hts : ∀ i, (rd_L1 ts i).length < 1000000) : ∀ (e i : Nat), e = N - i → i ≤ N → Tot (fun k => ferruleref11_From.l0 k n ts ((List.range i).map (inTo n ts N)) (i : Int)) (frm n ts N N) := by
  intro e
  induction e with
  | zero =>
    intro i he hi
    have e : i = N := by omega
    subst e
    refine (Tot.pure _).step (fun k => ?_)
    rw [ferruleref11_From.l0, if_neg (by omega)]
    rfl
  | succ e ih =>
    intro i he hi
    have ih := ih (i + 1) (by omega) (by omega)
    rw [List.range_succ, List.map_append, List.map_singleton] at ih
    have h1 := rfrom_l1 hn hN hts ((List.range i).map (inTo n ts N)) i (by simp; omega) (by omega) ih N 0 (by omega) (Nat.zero_le _)
    refine h1.step (fun k => ?_)
    rw [ferruleref11_From.l0, if_pos (by omega)]
    rfl
theorem rfrom_tot (hn : n = N) (hN : N < 1000000) (hts : ∀ i, (rd_L1 ts i).length < 1000000) : Tot (fun k => ferruleref11_From.f k n ts) (frm n ts N N) :=
  (rfrom_l0 hn hN hts N 0 (by omega) (Nat.zero_le _)).congr (fun k => rfl)

/-! ### what can be come to at all -/
theorem nodup_split {x : Int} : ∀ {l1 l1' l2 l2' : List Int}, (l1 ++ x :: l2).Nodup → l1 ++ x :: l2 = l1' ++ x :: l2' → l2 = l2'
  | [], [], l2, l2', _, h => by simpa using h
  | [], y :: l1', l2, l2', hd, h => by
    simp only [List.nil_append, List.cons_append, List.cons.injEq] at h
    obtain ⟨rfl, h⟩ := h
    have := (List.nodup_cons.1 hd).1
    rw [h] at this
    exact absurd (by simp) this
  | a :: l1, [], l2, l2', hd, h => by
    simp only [List.nil_append, List.cons_append, List.cons.injEq] at h
    obtain ⟨rfl, h⟩ := h
    have := (List.nodup_cons.1 hd).1
    exact absurd (by simp) this
  | a :: l1, b :: l1', l2, l2', hd, h => by
    simp only [List.cons_append, List.cons.injEq] at h
    exact nodup_split (List.nodup_cons.1 hd).2 h.2
theorem rw_all {t o : List Int} (hW : Walked n ts N t o) : ∀ (l2 l1 : List Int), o ++ [0] = l1 ++ l2 → ∀ x ∈ l2, Rw (Wy n ts) (-1) x
  | [], l1, h, x, hx => by cases hx
  | y :: l2, l1, h, x, hx => by
    have ih := rw_all hW l2 (l1 ++ [y]) (by rw [h]; simp)
    rcases List.mem_cons.1 hx with rfl | hx
    · have hxm : x ∈ o ++ [0] := by rw [h]; simp
      rcases List.mem_append.1 hxm with hxo | hx0
      · obtain ⟨p, hp, m1, m2, e, hpm⟩ := hW.par x hxo
        have hs := nodup_split (x := x) (l1 := l1) (l2 := l2) (l1' := m1) (l2' := m2) (by rw [← h]; exact hW.ond) (h.symm.trans e)
        subst hs
        have hxr := hW.rg x ((hW.mem x).2 (.inl hxo))
        exact .step p x (ih p hpm) hp (by omega)
      · rw [List.mem_singleton.1 hx0]
        exact .zero (by decide)
    · exact ih x hx
theorem rw_iff {t o : List Int} (hW : Walked n ts N t o) (v : Int) : Rw (Wy n ts) (-1) v ↔ v ∈ t := by
  constructor
  · exact fun h => h.in_ hW
  · intro h
    refine rw_all hW (o ++ [0]) [] rfl v ?_
    rcases (hW.mem v).1 h with h | h
    · exact List.mem_append_left _ h
    · rw [h]; simp
theorem rchd_eq {q t : List Int} (h : ∀ v, v ∈ q ↔ v ∈ t) : rchd q N = rchd t N := by
  unfold rchd
  apply List.map_congr_left
  intro a _
  exact decide_eq_decide.2 (h _)
theorem rreach_tot (hn : n = N) (hN : N < 1000000) (h0 : 0 < N) (hts : ∀ i, (rd_L1 ts i).length < 1000000) {t o : List Int} (hW : Walked n ts N t o) : Tot (fun k => ferruleref11_Reach.f k n ts) (rchd t N) := by
  obtain ⟨q, h1, h2⟩ := rwalk_tot hn hN h0 hts (-1)
  rw [rchd_eq (fun v => (h2 v).trans (rw_iff hW v))] at h1
  exact (Tot.bind (b := fun _ t273 => some t273) h1 (Tot.pure _)).congr (fun k => rfl)

/-! ### Doms -/
theorem cnt_lt {p q : Nat → Prop} [DecidablePred p] [DecidablePred q] (h : ∀ j, p j → q j) {y : Nat} (hq : q y) (hp : ¬ p y) : ∀ N, y < N → cnt p N < cnt q N
  | 0, hy => by omega
  | N + 1, hy => by
    have hle : ∀ M, cnt p M ≤ cnt q M := by
      intro M
      induction M with
      | zero => exact Nat.le_refl _
      | succ M ih =>
        simp only [cnt]
        by_cases c : p M
        · rw [if_pos c, if_pos (h M c)]; omega
        · rw [if_neg c]; split <;> omega
    simp only [cnt]
    by_cases e : y = N
    · subst e
      have := hle y
      rw [if_neg hp, if_pos hq]
      omega
    · have := cnt_lt h hq hp N (by omega)
      by_cases c : p N
      · rw [if_pos c, if_pos (h N c)]; omega
      · rw [if_neg c]; split <;> omega
variable {t order near : List Int}
/-- e is passed on every way to d, and is not d. -/
def Ov (nr : Int → Int) (d : Int) (e : Nat) : Prop := (e : Int) ≠ d ∧ Anc nr (e : Int) d
noncomputable instance (nr : Int → Int) (d : Int) : DecidablePred (Ov nr d) := fun _ => Classical.propDecidable _
theorem anc_t (hD : DomsIs n ts N t order near) {u v : Int} (h : Anc (nrO near) u v) (hv : v ∈ t) : u ∈ t := by
  obtain ⟨pl, hS⟩ := hD.st
  exact (anc_le hS h hv).1
theorem rdoms_l2 (hn : n = N) (hN : N < 1000000) (h0 : 0 < N) (hts : ∀ i, (rd_L1 ts i).length < 1000000) (hrg : ∀ v : Int, v ∈ t → 0 ≤ v ∧ v < N) (hD : DomsIs n ts N t order near)
    (x5 : List Int) (i d : Nat) (x8 x9 : Int) (hdN : d < N) (hdt : (d : Int) ∈ t) {r : List Int}
    (cont : Tot (fun k => if ((cnt (Ov (nrO near) (d : Int)) N : Nat) : Int) > x9 then ferruleref11_Doms.l1 k n ts x5 (rchd t N) (i : Int) (d : Int) ((cnt (Ov (nrO near) (d : Int)) N : Nat) : Int) ((d + 1 : Nat) : Int) else ferruleref11_Doms.l1 k n ts x5 (rchd t N) (i : Int) x8 x9 ((d + 1 : Nat) : Int)) r) :
    ∀ (e j : Nat), e = N - j → j ≤ N → Tot (fun k => ferruleref11_Doms.l2 k n ts x5 (rchd t N) (i : Int) x8 x9 (d : Int) ((cnt (Ov (nrO near) (d : Int)) j : Nat) : Int) (j : Int)) r := by
  intro e
  induction e with
  | zero =>
    intro j he hj
    have e : j = N := by omega
    subst e
    refine cont.step (fun k => ?_)
    rw [ferruleref11_Doms.l2, if_neg (by omega), w64n _ (by omega)]
  | succ e ih =>
    intro j he hj
    have ih := ih (j + 1) (by omega) (by omega)
    have hjN : j < N := by omega
    have hcl := cnt_le (Ov (nrO near) (d : Int)) j
    have hstep : cnt (Ov (nrO near) (d : Int)) (j + 1) = cnt (Ov (nrO near) (d : Int)) j + if Ov (nrO near) (d : Int) j then 1 else 0 := rfl
    have hl := rchd_length t N
    have hrj : rdOf false (rchd t N) (j : Int) = decide ((j : Int) ∈ t) := rchd_rd hjN
    by_cases c : j = d
    · have hno : ¬ Ov (nrO near) (d : Int) j := fun h => h.1 (by rw [c])
      rw [hstep, if_neg hno, Nat.add_zero] at ih
      refine ih.step (fun k => ?_)
      rw [ferruleref11_Doms.l2, if_pos (by omega), if_pos (by omega), w64n _ (by omega)]
    · by_cases g : (j : Int) ∈ t
      · obtain ⟨q, q1, q2⟩ := rwalk_tot hn hN h0 hts (j : Int)
        have hql := rchd_length q N
        have hrd : rdOf false (rchd q N) (d : Int) = decide ((d : Int) ∈ q) := rchd_rd hdN
        have hiff : (d : Int) ∈ q ↔ ¬ Anc (nrO near) (j : Int) (d : Int) := by
          rw [q2, hD.is_ (j : Int) (d : Int) hdt]
          exact ⟨fun h h' => h' h, fun h => Classical.byContradiction h⟩
        by_cases a : (d : Int) ∈ q
        · have hno : ¬ Ov (nrO near) (d : Int) j := fun h => hiff.1 a h.2
          rw [hstep, if_neg hno, Nat.add_zero] at ih
          refine (Tot.bind (b := fun k t326 => if 0 ≤ (d : Int) then (if (d : Int) < (t326.length : Int) then (if rdOf false t326 (d : Int) = true then (ferruleref11_Doms.l2 k n ts x5 (rchd t N) (i : Int) x8 x9 (d : Int) ((cnt (Ov (nrO near) (d : Int)) j : Nat) : Int) (wrap64 ((j : Int) + 1))) else (ferruleref11_Doms.l2 k n ts x5 (rchd t N) (i : Int) x8 x9 (d : Int) (wrap64 (((cnt (Ov (nrO near) (d : Int)) j : Nat) : Int) + 1)) (wrap64 ((j : Int) + 1)))) else none) else none) q1 (ih.congr (fun k => ?_))).step (fun k => ?_)
          · rw [if_pos (by omega), if_pos (by omega), hrd, if_pos (decide_eq_true a), w64n _ (by omega)]
          · rw [ferruleref11_Doms.l2, if_pos (by omega), if_neg (by omega), if_pos (by omega), if_pos (by omega), hrj, if_pos (decide_eq_true g)]
        · have hyes : Ov (nrO near) (d : Int) j := ⟨by omega, Classical.byContradiction fun h => a (hiff.2 h)⟩
          rw [hstep, if_pos hyes] at ih
          refine (Tot.bind (b := fun k t326 => if 0 ≤ (d : Int) then (if (d : Int) < (t326.length : Int) then (if rdOf false t326 (d : Int) = true then (ferruleref11_Doms.l2 k n ts x5 (rchd t N) (i : Int) x8 x9 (d : Int) ((cnt (Ov (nrO near) (d : Int)) j : Nat) : Int) (wrap64 ((j : Int) + 1))) else (ferruleref11_Doms.l2 k n ts x5 (rchd t N) (i : Int) x8 x9 (d : Int) (wrap64 (((cnt (Ov (nrO near) (d : Int)) j : Nat) : Int) + 1)) (wrap64 ((j : Int) + 1)))) else none) else none) q1 (ih.congr (fun k => ?_))).step (fun k => ?_)
          · rw [if_pos (by omega), if_pos (by omega), hrd, if_neg (by simpa using a), w64n _ (by omega), w64n _ (by omega)]
          · rw [ferruleref11_Doms.l2, if_pos (by omega), if_neg (by omega), if_pos (by omega), if_pos (by omega), hrj, if_pos (decide_eq_true g)]
      · have hno : ¬ Ov (nrO near) (d : Int) j := fun h => g (anc_t hD h.2 hdt)
        rw [hstep, if_neg hno, Nat.add_zero] at ih
        refine ih.step (fun k => ?_)
        rw [ferruleref11_Doms.l2, if_pos (by omega), if_neg (by omega), if_pos (by omega), if_pos (by omega), hrj, if_neg (by simpa using g), w64n _ (by omega)]
/-- Of the blocks that are passed on every way to i the one in the table has the most of them on its own. -/
theorem deepest (hrg : ∀ v : Int, v ∈ t → 0 ≤ v ∧ v < N) (hD : DomsIs n ts N t order near) {i d : Int} (hi : i ∈ t) (hi0 : i ≠ 0) (hd : Anc (nrO near) d i) (hdi : d ≠ i) (hne : d ≠ rd near i) : cnt (Ov (nrO near) d) N < cnt (Ov (nrO near) (rd near i)) N := by
  obtain ⟨pl, hS⟩ := hD.st
  obtain ⟨hir0, hir1⟩ := hrg i hi
  have hnr : nrO near i = rd near i := nrO_in hir0 (by rw [hD.len]; exact hir1)
  have hup : Anc (nrO near) d (rd near i) := by
    rcases hd.cases_ with e | ⟨_, h⟩
    · exact absurd e hdi
    · rwa [hnr] at h
  obtain ⟨hn0, hnt, _⟩ := hD.some_ i hi hi0
  have hlt := (anc_le hS hup hnt).2.2.resolve_left hne
  have hdt := anc_t hD hup hnt
  obtain ⟨hd0, hd1⟩ := hrg d hdt
  have hdd : ((d.toNat : Nat) : Int) = d := Int.toNat_of_nonneg hd0
  refine cnt_lt (y := d.toNat) (fun e h => ?_) ?_ ?_ N (by omega)
  · refine ⟨fun e2 => ?_, hup.trans h.2⟩
    have := (anc_le hS h.2 hdt).2.1
    rw [e2] at this
    omega
  · show _ ∧ _
    rw [hdd]
    exact ⟨hne, hup⟩
  · intro h
    exact h.1 hdd
theorem rdoms_l1 (hn : n = N) (hN : N < 1000000) (h0 : 0 < N) (hts : ∀ i, (rd_L1 ts i).length < 1000000) (hrg : ∀ v : Int, v ∈ t → 0 ≤ v ∧ v < N) (hD : DomsIs n ts N t order near)
    (x5 : List Int) (i : Nat) (h5 : x5.length < 1000000) (hiN : i < N) (hit : (i : Int) ∈ t) (hi0 : 0 < i) {r : List Int}
    (cont : Tot (fun k => ferruleref11_Doms.l0 k n ts (x5 ++ [rd near (i : Int)]) (rchd t N) ((i + 1 : Nat) : Int)) r) :
    ∀ (e d : Nat) (x8 x9 : Int), e = N - d → d ≤ N → (rd near (i : Int) < d → x8 = rd near (i : Int) ∧ x9 = cnt (Ov (nrO near) (rd near (i : Int))) N) → ((d : Int) ≤ rd near (i : Int) → x9 < cnt (Ov (nrO near) (rd near (i : Int))) N) →
      Tot (fun k => ferruleref11_Doms.l1 k n ts x5 (rchd t N) (i : Int) x8 x9 (d : Int)) r := by
  obtain ⟨hn0, hnt, _⟩ := hD.some_ (i : Int) hit (by omega)
  obtain ⟨_, hnN⟩ := hrg _ hnt
  have hl := rchd_length t N
  have hri : rdOf false (rchd t N) (i : Int) = decide ((i : Int) ∈ t) := rchd_rd hiN
  obtain ⟨pl, hS⟩ := hD.st
  have hnr : nrO near (i : Int) = rd near (i : Int) := nrO_in (by omega) (by rw [hD.len]; omega)
  have hanc : Anc (nrO near) (rd near (i : Int)) (i : Int) := .up _ (by rw [hnr]; exact hn0) (by rw [hnr]; exact .self)
  have hni : rd near (i : Int) ≠ (i : Int) := by
    intro e
    have := (hS (i : Int) (by rw [hnr]; exact hn0)).2.2.2.1
    rw [hnr, e] at this
    omega
  have deep : ∀ d : Int, Anc (nrO near) d (i : Int) → d ≠ (i : Int) → d ≠ rd near (i : Int) → cnt (Ov (nrO near) d) N < cnt (Ov (nrO near) (rd near (i : Int))) N := fun d h1 h2 h3 => deepest hrg hD hit (by omega) h1 h2 h3
  have hisd := fun d : Int => hD.is_ d (i : Int) hit
  generalize rd near (i : Int) = y at *
  intro e
  induction e with
  | zero =>
    intro d x8 x9 he hd hp hq
    have ed : d = N := by omega
    subst ed
    obtain ⟨e1, _⟩ := hp (by omega)
    subst e1
    refine (cont.step (f := fun k => ferruleref11_Doms.j2 k n ts x5 (rchd t d) (i : Int) x8 x9 (d : Int) false) (fun k => ?_)).step (fun k => ?_)
    · rw [ferruleref11_Doms.j2, if_neg (by decide), if_pos (by omega), w64n _ (by omega)]
    · rw [ferruleref11_Doms.l1, if_neg (by omega)]
  | succ e ih =>
    intro d x8 x9 he hd hp hq
    have hdN : d < N := by omega
    have head : ∀ {g : Nat → Option (List Int)}, Tot g r → (∀ k, ferruleref11_Doms.j2 (k + 1) n ts x5 (rchd t N) (i : Int) x8 x9 (d : Int) true = g k) → Tot (fun k => ferruleref11_Doms.l1 k n ts x5 (rchd t N) (i : Int) x8 x9 (d : Int)) r := by
      intro g hg h
      refine (hg.step (f := fun k => ferruleref11_Doms.j2 k n ts x5 (rchd t N) (i : Int) x8 x9 (d : Int) true) h).step (fun k => ?_)
      rw [ferruleref11_Doms.l1, if_pos (by omega), if_pos (by omega), if_pos (by omega), hri, if_pos (decide_eq_true hit), decide_eq_true (by omega)]
    -- d is passed over
    have over : (d : Int) ≠ y → Tot (fun k => ferruleref11_Doms.j3 k n ts x5 (rchd t N) (i : Int) x8 x9 (d : Int) true) r := by
      intro hne
      have ih := ih (d + 1) x8 x9 (by omega) (by omega) (fun h => hp (by omega)) (fun h => hq (by omega))
      refine ih.step (fun k => ?_)
      rw [ferruleref11_Doms.j3, if_pos rfl, w64n _ (by omega)]
    have hrd : rdOf false (rchd t N) (d : Int) = decide ((d : Int) ∈ t) := rchd_rd hdN
    by_cases c : d = i
    · refine head (over (by omega)) (fun k => ?_)
      rw [ferruleref11_Doms.j2, if_pos rfl, if_pos (by omega)]
    · by_cases g : (d : Int) ∈ t
      · obtain ⟨q, q1, q2⟩ := rwalk_tot hn hN h0 hts (d : Int)
        have hql := rchd_length q N
        have hrq : rdOf false (rchd q N) (i : Int) = decide ((i : Int) ∈ q) := rchd_rd hiN
        have hiff : (i : Int) ∈ q ↔ ¬ Anc (nrO near) (d : Int) (i : Int) := by
          rw [q2, hisd]
          exact ⟨fun h h' => h' h, fun h => Classical.byContradiction h⟩
        have fin : Tot (fun k => ferruleref11_Doms.j3 k n ts x5 (rchd t N) (i : Int) x8 x9 (d : Int) (decide ((i : Int) ∈ q))) r := by
          by_cases a : (i : Int) ∈ q
          · rw [decide_eq_true a]
            exact over (fun e => hiff.1 a (by rw [e]; exact hanc))
          · rw [decide_eq_false a]
            have han : Anc (nrO near) (d : Int) (i : Int) := Classical.byContradiction fun h => a (hiff.2 h)
            have h2 := rdoms_l2 hn hN h0 hts hrg hD x5 i d x8 x9 hdN g (r := r) (by
              by_cases ey : (d : Int) = y
              · have hx := hq (by omega)
                refine Tot.pos (by rw [ey]; omega) (ih (d + 1) (d : Int) _ (by omega) (by omega) (fun _ => ⟨ey, by rw [ey]⟩) (fun h => by omega))
              · have hk := deep (d : Int) han (by omega) ey
                by_cases cc : ((cnt (Ov (nrO near) (d : Int)) N : Nat) : Int) > x9
                · refine Tot.pos cc (ih (d + 1) (d : Int) _ (by omega) (by omega) (fun h => ?_) (fun _ => by omega))
                  have := hp (by omega)
                  omega
                · exact Tot.neg cc (ih (d + 1) x8 x9 (by omega) (by omega) (fun h => hp (by omega)) (fun h => hq (by omega)))) N 0 (by omega) (Nat.zero_le _)
            refine h2.step (fun k => ?_)
            rw [ferruleref11_Doms.j3, if_neg (by decide)]
            rfl
        refine head (Tot.bind (b := fun k t321 => if 0 ≤ (i : Int) then (if (i : Int) < (t321.length : Int) then ferruleref11_Doms.j3 k n ts x5 (rchd t N) (i : Int) x8 x9 (d : Int) (rdOf false t321 (i : Int)) else none) else none) q1 (fin.congr (fun k => ?_))) (fun k => ?_)
        · rw [if_pos (by omega), if_pos (by omega), hrq]
        · rw [ferruleref11_Doms.j2, if_pos rfl, if_neg (by omega), if_pos (by omega), if_pos (by omega), hrd, if_pos (decide_eq_true g)]
      · refine head (over (fun e => g (by rw [e]; exact hnt))) (fun k => ?_)
        rw [ferruleref11_Doms.j2, if_pos rfl, if_neg (by omega), if_pos (by omega), if_pos (by omega), hrd, if_neg (by simpa using g)]
theorem rdoms_l0 (hn : n = N) (hN : N < 1000000) (h0 : 0 < N) (hts : ∀ i, (rd_L1 ts i).length < 1000000) (hrg : ∀ v : Int, v ∈ t → 0 ≤ v ∧ v < N) (hD : DomsIs n ts N t order near) :
    ∀ (e i : Nat), e = N - i → i ≤ N → Tot (fun k => ferruleref11_Doms.l0 k n ts (near.take i) (rchd t N) (i : Int)) near := by
  have hl := rchd_length t N
  have hnl := hD.len
  intro e
  induction e with
  | zero =>
    intro i he hi
    have ei : i = N := by omega
    have et : near.take i = near := by rw [ei, ← hnl, List.take_length]
    rw [et]
    refine (Tot.pure _).step (fun k => ?_)
    rw [ferruleref11_Doms.l0, if_neg (by omega)]
  | succ e ih =>
    intro i he hi
    have hiN : i < N := by omega
    have ih := ih (i + 1) (by omega) (by omega)
    rw [List.take_succ_eq_append_getElem (by omega), ← rd_at (by omega)] at ih
    have h5 : (near.take i).length < 1000000 := by rw [List.length_take]; omega
    have hri : rdOf false (rchd t N) (i : Int) = decide ((i : Int) ∈ t) := rchd_rd hiN
    have go : Tot (fun k => ferruleref11_Doms.l1 k n ts (near.take i) (rchd t N) (i : Int) (-1) (-1) 0) near := by
      by_cases c : (i : Int) ∈ t ∧ 0 < i
      · obtain ⟨hn0, _⟩ := hD.some_ (i : Int) c.1 (by omega)
        exact rdoms_l1 hn hN h0 hts hrg hD (near.take i) i h5 hiN c.1 c.2 ih N 0 (-1) (-1) (by omega) (Nat.zero_le _) (fun h => by omega) (fun _ => by omega)
      · have hm : rd near (i : Int) = -1 := hD.none_ (i : Int) (by omega) (by omega) (by
          by_cases a : (i : Int) ∈ t
          · left
            have : ¬ 0 < i := fun h => c ⟨a, h⟩
            omega
          · exact .inr a)
        rw [hm] at ih
        refine (ih.step (f := fun k => ferruleref11_Doms.j2 k n ts (near.take i) (rchd t N) (i : Int) (-1) (-1) 0 false) (fun k => ?_)).step (fun k => ?_)
        · rw [ferruleref11_Doms.j2, if_neg (by decide), if_pos (by omega), w64n _ (by omega)]
        · rw [ferruleref11_Doms.l1, if_pos (by omega), if_pos (by omega), if_pos (by omega), hri]
          by_cases a : (i : Int) ∈ t
          · have : ¬ 0 < i := fun h => c ⟨a, h⟩
            rw [if_pos (decide_eq_true a), decide_eq_false (by omega)]
          · rw [if_neg (by simpa using a)]
    refine go.step (fun k => ?_)
    rw [ferruleref11_Doms.l0, if_pos (by omega)]
theorem rdoms_tot (hn : n = N) (hN : N < 1000000) (h0 : 0 < N) (hts : ∀ i, (rd_L1 ts i).length < 1000000) {o : List Int} (hW : Walked n ts N t o) (hD : DomsIs n ts N t order near) : Tot (fun k => ferruleref11_Doms.f k n ts) near := by
  have h1 := rreach_tot hn hN h0 hts hW
  have h2 := rdoms_l0 hn hN h0 hts hW.rg hD N 0 (by omega) (Nat.zero_le _)
  rw [List.take_zero] at h2
  exact (Tot.bind (b := fun k t313 => ferruleref11_Doms.l0 k n ts [] t313 0) h1 h2).congr (fun k => rfl)
end
end Go.Proofs.Ytafjbebbmfihaaa.P
