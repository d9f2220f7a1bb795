/- ferrulelaw11.GraphCloses answers true, in plain Lean; no condition. -/
import Derived.Test.YtafjbebbmfihaaaGFrom
import Derived.Test.YtafjbebbmfihaaaHCloses
import Derived.Laws.Bits128
namespace Go.Proofs.Ytafjbebbmfihaaa.P
open Go.RowKit Go.Proofs.YtafjbebbmfihaaaW.PrintWords Go.Proofs.YtafjbebbmfihaaaW.PrintLast Go.Proofs.YtafjbebbmfihaaaW.PrintMore
set_option linter.unusedSectionVars false
set_option linter.unusedVariables false
set_option linter.unusedSimpArgs false

theorem w64n (k : Nat) (h : k < 4611686018427387904) : wrap64 ((k : Int) + 1) = ((k + 1 : Nat) : Int) := by
  rw [w64 (by omega) (by omega)]
  omega
theorem i64_and31 (n : Int) : Go.bits .and .i64 n 31 = n % 32 := by
  have hm : (BitVec.ofInt 64 31).toNat = 2 ^ 5 - 1 := by decide
  have key : (BitVec.ofInt 64 n &&& BitVec.ofInt 64 31).toNat = (n % ((2 ^ 64 : Nat) : Int)).toNat % 2 ^ 5 := by
    rw [BitVec.toNat_and, BitVec.toNat_ofInt, hm, Nat.and_two_pow_sub_one_eq_mod]
  show IntKind.i64.wrap ((BitVec.ofInt 64 n &&& BitVec.ofInt 64 31).toNat : Nat) = n % 32
  rw [key, IntKind.wrap_i64]
  omega
theorem i64_and15 (n : Int) : Go.bits .and .i64 n 15 = n % 16 := by
  have hm : (BitVec.ofInt 64 15).toNat = 2 ^ 4 - 1 := by decide
  have key : (BitVec.ofInt 64 n &&& BitVec.ofInt 64 15).toNat = (n % ((2 ^ 64 : Nat) : Int)).toNat % 2 ^ 4 := by
    rw [BitVec.toNat_and, BitVec.toNat_ofInt, hm, Nat.and_two_pow_sub_one_eq_mod]
  show IntKind.i64.wrap ((BitVec.ofInt 64 n &&& BitVec.ofInt 64 15).toNat : Nat) = n % 16
  rw [key, IntKind.wrap_i64]
  omega
section
variable {N : Nat} {ts : List (List Int)} {t o : List Int}
/-- How many blocks below N the first k ways of a row tell. -/
def firsts (L : List Int) (N k : Nat) : Nat := cnt (fun j => (j : Int) ∈ L.take k) N
theorem rd_at {L : List Int} {j : Nat} (h : j < L.length) : rd L (j : Int) = L[j] := by simp [rd, List.getD, h]
theorem take_succ_mem {L : List Int} {k : Nat} (h : k < L.length) (y : Int) : y ∈ L.take (k + 1) ↔ y ∈ L.take k ∨ y = L[k] := by
  rw [List.take_succ_eq_append_getElem h, List.mem_append, List.mem_singleton]
theorem firsts_out {L : List Int} {N k : Nat} (h : k < L.length) (ho : L[k] < 0 ∨ (N : Int) ≤ L[k]) : firsts L N (k + 1) = firsts L N k := by
  unfold firsts
  refine cnt_congr N (fun j hj => ?_)
  rw [take_succ_mem h]
  constructor
  · rintro (h | h)
    · exact h
    · omega
  · exact .inl
theorem firsts_old {L : List Int} {N k : Nat} (h : k < L.length) (ho : L[k] ∈ L.take k) : firsts L N (k + 1) = firsts L N k := by
  unfold firsts
  refine cnt_congr N (fun j hj => ?_)
  rw [take_succ_mem h]
  constructor
  · rintro (h | h)
    · exact h
    · rw [h]; exact ho
  · exact .inl
theorem firsts_new {L : List Int} {N k : Nat} (h : k < L.length) (h0 : 0 ≤ L[k]) (h1 : L[k] < N) (ho : L[k] ∉ L.take k) : firsts L N (k + 1) = firsts L N k + 1 := by
  unfold firsts
  have := cnt_one (fun j : Nat => (j : Int) ∈ L.take k) (fun j : Nat => (j : Int) ∈ L.take (k + 1)) (L[k].toNat) (by rw [Int.toNat_of_nonneg h0]; exact ho) (fun j => by
    rw [take_succ_mem h]
    constructor
    · rintro (h | h)
      · exact .inl h
      · exact .inr (by omega)
    · rintro (h | h)
      · exact .inl h
      · exact .inr (by omega)) N
  rw [this, if_pos (by omega)]
theorem firsts_all (i : Nat) (hi : i < ts.length) : firsts (rd_L1 ts (i : Int)) N (rd_L1 ts (i : Int)).length = cnt (fun j => (j : Int) ∈ Wy (N : Int) ts (i : Int)) N := by
  unfold firsts
  refine cnt_congr N (fun j hj => ?_)
  rw [List.take_length]
  unfold Wy
  rw [if_pos (by omega), List.mem_filter]
  constructor
  · intro h
    exact ⟨h, by simp; omega⟩
  · exact fun h => h.1

/-- The ways told by the first i rows. -/
def told (ts : List (List Int)) (N i : Nat) : Nat := sm (fun a => cnt (fun j => (j : Int) ∈ Wy (N : Int) ts (a : Int)) N) i
theorem told_le (i : Nat) : told ts N i ≤ i * N := by
  unfold told
  exact sm_le (fun a => cnt_le _ _) _
theorem told_past : ∀ (d i : Nat), ts.length ≤ i → told ts N (i + d) = told ts N i
  | 0, i, h => rfl
  | d + 1, i, h => by
    rw [← Nat.add_assoc]
    unfold told
    simp only [sm]
    have := told_past d i h
    unfold told at this
    rw [this]
    have : cnt (fun j => (j : Int) ∈ Wy (N : Int) ts ((i + d : Nat) : Int)) N = 0 := by
      rw [cnt_congr (q := fun _ => False) N (fun j _ => ?_)]
      · have : ∀ N, cnt (fun _ => False) N = 0 := by
          intro N
          induction N with
          | zero => rfl
          | succ N ih => simp only [cnt]; rw [ih]; rfl
        exact this N
      · unfold Wy
        rw [if_neg (by omega)]
        simp
    omega
/-- all that come to the blocks -/
def come (ts : List (List Int)) (N i : Nat) : Nat := sm (fun j => (inTo (N : Int) ts N j).length) i
theorem come_told : come ts N N = told ts N N := by
  unfold come told
  rw [sm_swap (fun i j => (j : Int) ∈ Wy (N : Int) ts (i : Int)) N N]
  exact sm_congr N (fun j _ => inTo_length _ _ _ _)

variable (hN : N ≤ 32) (hts : ∀ i, (rd_L1 ts i).length < 200) (hlen : ts.length < 200)
variable (hW : Walked (N : Int) ts N t o)
include hN hts hlen hW
set_option maxHeartbeats 1000000 in
/-- The looks at a row's earlier ways. -/
theorem closes_l4 (x7 : Int) (ways i k : Nat) (L : List Int) (x : Int) (hL : rd_L1 ts (i : Int) = L) (hkL : L.length < 200) (hi : i < N) (hi2 : i < ts.length) (hk : k < L.length) (hx : rd L (k : Int) = x) (h0 : 0 ≤ x) (h1 : x < N) (hshut : (i : Int) ∈ t → x ∈ t) (hw : ways < 100000) (r : Bool)
    (cont : Tot (fun K => ferrulelaw11_GraphCloses.l3 K (N : Int) ts (rchd t N) x7 ((ways + (if x ∈ L.take k then 0 else 1) : Nat) : Int) (i : Int) ((k + 1 : Nat) : Int)) r) :
    ∀ (d j : Nat) (first : Bool), d = k - j → j ≤ k → (first = true ↔ x ∉ L.take j) → Tot (fun K => ferrulelaw11_GraphCloses.l4 K (N : Int) ts (rchd t N) x7 (ways : Int) (i : Int) (k : Int) first (j : Int)) r := by
  have hl := rchd_length t N
  have hri : rdOf false (rchd t N) (i : Int) = decide ((i : Int) ∈ t) := rchd_rd hi
  have hrx : rdOf false (rchd t N) x = decide (x ∈ t) := by
    obtain ⟨y, rfl⟩ : ∃ y : Nat, x = (y : Int) := ⟨x.toNat, by omega⟩
    exact rchd_rd (by omega)
  intro d
  induction d with
  | zero =>
    intro j first hd hj hf
    have e : j = k := by omega
    subst e
    by_cases c : first = true
    · rw [if_neg (hf.1 c)] at cont
      refine cont.step (fun K => ?_)
      rw [ferrulelaw11_GraphCloses.l4, if_neg (by omega), if_pos c, if_pos (by omega), if_pos (by omega), hri]
      by_cases d : (i : Int) ∈ t
      · rw [if_pos (decide_eq_true d), if_pos (by omega), hL, if_pos (by omega), if_pos (by omega), hx, if_pos h0, if_pos (by omega), hrx, if_pos (decide_eq_true (hshut d)), w64n _ (by omega), w64n _ (by omega)]
      · rw [if_neg (by simpa using d), w64n _ (by omega), w64n _ (by omega)]
    · have hin : x ∈ L.take j := Classical.byContradiction fun h => c (hf.2 h)
      rw [if_pos hin, Nat.add_zero] at cont
      refine cont.step (fun K => ?_)
      rw [ferrulelaw11_GraphCloses.l4, if_neg (by omega), if_neg c, if_pos (by omega), if_pos (by omega), hri]
      by_cases d : (i : Int) ∈ t
      · rw [if_pos (decide_eq_true d), if_pos (by omega), hL, if_pos (by omega), if_pos (by omega), hx, if_pos h0, if_pos (by omega), hrx, if_pos (decide_eq_true (hshut d)), w64n _ (by omega)]
      · rw [if_neg (by simpa using d), w64n _ (by omega)]
  | succ d ih =>
    intro j first hd hj hf
    have hjk : j < k := by omega
    by_cases c : first = true
    · have hn := hf.1 c
      have ih2 := ih (j + 1) (rd L (j : Int) != x) (by omega) (by omega) (by
        rw [take_succ_mem (by omega), ← rd_at (L := L) (j := j) (by omega), bne_iff_ne]
        constructor
        · rintro h (h' | h')
          · exact hn h'
          · exact h h'.symm
        · exact fun h h' => h (.inr h'.symm))
      refine ih2.step (fun K => ?_)
      rw [ferrulelaw11_GraphCloses.l4, if_pos (by omega), if_pos c, if_pos (by omega), if_pos (by omega), hL, if_pos (by omega), if_pos (by omega), if_pos (by omega), if_pos (by omega), w64n _ (by omega), hx]
    · have hin : x ∈ L.take j := Classical.byContradiction fun h => c (hf.2 h)
      have ih2 := ih (j + 1) false (by omega) (by omega) (by
        rw [take_succ_mem (by omega)]
        constructor
        · intro h; cases h
        · exact fun h => absurd (.inl hin) h)
      refine ih2.step (fun K => ?_)
      rw [ferrulelaw11_GraphCloses.l4, if_pos (by omega), if_neg c, w64n _ (by omega)]
set_option maxHeartbeats 1000000 in
/-- A row's ways. -/
theorem closes_l3 (x7 : Int) (base i : Nat) (L : List Int) (hL : rd_L1 ts (i : Int) = L) (hkL : L.length < 200) (hi : i < N) (hi2 : i < ts.length) (hb : base < 50000) (r : Bool)
    (cont : Tot (fun K => ferrulelaw11_GraphCloses.l2 K (N : Int) ts (rchd t N) x7 ((base + firsts L N L.length : Nat) : Int) ((i + 1 : Nat) : Int)) r) :
    ∀ (d k : Nat), d = L.length - k → k ≤ L.length → Tot (fun K => ferrulelaw11_GraphCloses.l3 K (N : Int) ts (rchd t N) x7 ((base + firsts L N k : Nat) : Int) (i : Int) (k : Int)) r := by
  intro d
  induction d with
  | zero =>
    intro k hd hk
    have e : k = L.length := by omega
    subst e
    refine cont.step (fun K => ?_)
    rw [ferrulelaw11_GraphCloses.l3, if_pos (by omega), if_pos (by omega), hL, if_neg (by omega), w64n _ (by omega)]
  | succ d ih =>
    intro k hd hk
    have hlt : k < L.length := by omega
    have hrk := rd_at hlt
    have hmem := List.getElem_mem hlt
    have ih := ih (k + 1) (by omega) (by omega)
    have hfl : firsts L N k ≤ N := cnt_le _ _
    have fo := firsts_out (N := N) hlt
    have fd := firsts_old (N := N) hlt
    have fn := firsts_new (N := N) hlt
    generalize L[k] = x at hrk hmem fo fd fn
    by_cases c0 : x < 0
    · rw [fo (.inl c0)] at ih
      refine (ih.step (f := fun K => ferrulelaw11_GraphCloses.j6 K (N : Int) ts (rchd t N) x7 ((base + firsts L N k : Nat) : Int) (i : Int) (k : Int) true) (fun K => ?_)).step (fun K => ?_)
      · rw [ferrulelaw11_GraphCloses.j6, if_pos rfl, w64n _ (by omega)]
      · rw [ferrulelaw11_GraphCloses.l3, if_pos (by omega), if_pos (by omega), hL, if_pos (by omega), if_pos (by omega), hrk, if_pos (by omega)]
    · by_cases c1 : x ≥ (N : Int)
      · rw [fo (.inr c1)] at ih
        refine (ih.step (f := fun K => ferrulelaw11_GraphCloses.j6 K (N : Int) ts (rchd t N) x7 ((base + firsts L N k : Nat) : Int) (i : Int) (k : Int) true) (fun K => ?_)).step (fun K => ?_)
        · rw [ferrulelaw11_GraphCloses.j6, if_pos rfl, w64n _ (by omega)]
        · rw [ferrulelaw11_GraphCloses.l3, if_pos (by omega), if_pos (by omega), hL, if_pos (by omega), if_pos (by omega), hrk, if_neg (by omega), decide_eq_true c1]
      · have e : base + firsts L N (k + 1) = base + firsts L N k + (if x ∈ L.take k then 0 else 1) := by
          by_cases m : x ∈ L.take k
          · rw [if_pos m, fd m]; rfl
          · rw [if_neg m, fn (by omega) (by omega) m]; omega
        rw [e] at ih
        have hshut : (i : Int) ∈ t → x ∈ t := by
          intro h
          refine hW.shut _ h _ ?_
          unfold Wy
          rw [if_pos (by omega), List.mem_filter, hL]
          exact ⟨hmem, by simp; omega⟩
        have h4 := closes_l4 hN hts hlen hW x7 (base + firsts L N k) i k L x hL hkL hi hi2 hlt hrk (by omega) (by omega) hshut (by omega) r ih k 0 true (by omega) (by omega) (by simp)
        refine (h4.step (f := fun K => ferrulelaw11_GraphCloses.j6 K (N : Int) ts (rchd t N) x7 ((base + firsts L N k : Nat) : Int) (i : Int) (k : Int) false) (fun K => ?_)).step (fun K => ?_)
        · rw [ferrulelaw11_GraphCloses.j6, if_neg (by decide), Int.natCast_zero]
        · rw [ferrulelaw11_GraphCloses.l3, if_pos (by omega), if_pos (by omega), hL, if_pos (by omega), if_pos (by omega), hrk, if_neg (by omega), decide_eq_false c1]
set_option maxHeartbeats 1000000 in
theorem closes_l2 (x7 : Int) (h7 : x7 = told ts N N) : ∀ (d i : Nat), d = N - i → i ≤ N → Tot (fun K => ferrulelaw11_GraphCloses.l2 K (N : Int) ts (rchd t N) x7 ((told ts N i : Nat) : Int) (i : Int)) true := by
  have stop : ∀ i, i ≤ N → (i = N ∨ ts.length ≤ i) → Tot (fun K => ferrulelaw11_GraphCloses.l2 K (N : Int) ts (rchd t N) x7 ((told ts N i : Nat) : Int) (i : Int)) true := by
    intro i hi hc
    have e : told ts N i = told ts N N := by
      rcases hc with rfl | hc
      · rfl
      · have := told_past (N := N) (N - i) i hc
        rw [Nat.add_sub_cancel' hi] at this
        exact this.symm
    refine ((Tot.pure true).step (f := fun K => ferrulelaw11_GraphCloses.j4 K (N : Int) ts (rchd t N) x7 ((told ts N i : Nat) : Int) (i : Int) false) (fun K => ?_)).step (fun K => ?_)
    · rw [ferrulelaw11_GraphCloses.j4, if_neg (by decide), h7, e]
      simp
    · rw [ferrulelaw11_GraphCloses.l2]
      by_cases c : (i : Int) < (ts.length : Int)
      · rw [if_pos c, decide_eq_false (by omega)]
      · rw [if_neg c]
  intro d
  induction d with
  | zero => exact fun i hd hi => stop i hi (.inl (by omega))
  | succ d ih =>
    intro i hd hi
    by_cases c : i < ts.length
    · have h2 := ih (i + 1) (by omega) (by omega)
      have e : told ts N (i + 1) = told ts N i + firsts (rd_L1 ts (i : Int)) N (rd_L1 ts (i : Int)).length := by
        rw [firsts_all i c]
        rfl
      rw [e] at h2
      have hb := told_le (ts := ts) (N := N) i
      have hb2 : i * N ≤ 32 * 32 := Nat.mul_le_mul (by omega) hN
      have h3 := closes_l3 hN hts hlen hW x7 (told ts N i) i _ rfl (hts _) (by omega) c (by omega) true h2 _ 0 rfl (Nat.zero_le _)
      have e0 : firsts (rd_L1 ts (i : Int)) N 0 = 0 := by
        unfold firsts
        have : ∀ N, cnt (fun j => (j : Int) ∈ (rd_L1 ts (i : Int)).take 0) N = 0 := by
          intro N
          induction N with
          | zero => rfl
          | succ N ih => simp only [cnt]; rw [ih]; simp
        exact this N
      rw [e0] at h3
      refine (h3.step (f := fun K => ferrulelaw11_GraphCloses.j4 K (N : Int) ts (rchd t N) x7 ((told ts N i : Nat) : Int) (i : Int) true) (fun K => ?_)).step (fun K => ?_)
      · rw [ferrulelaw11_GraphCloses.j4, if_pos rfl]
        rfl
      · rw [ferrulelaw11_GraphCloses.l2, if_pos (by omega), decide_eq_true (by omega)]
    · exact stop i hi (.inr (by omega))
set_option maxHeartbeats 1000000 in
/-- One block's list of who comes. -/
theorem closes_l1 (i base : Nat) (L : List Int) (hL : rd_L1 (frm (N : Int) ts N N) (i : Int) = L) (hLn : L.length ≤ N) (hup : List.Pairwise (fun a b : Int => a < b) L) (hLm : ∀ x ∈ L, 0 ≤ x ∧ x < N) (hi : i < N) (hb : base < 50000)
    (cont : Tot (fun K => ferrulelaw11_GraphCloses.l0 K (N : Int) ts (rchd t N) (frm (N : Int) ts N N) ((base + L.length : Nat) : Int) ((i + 1 : Nat) : Int)) true) :
    ∀ (d k : Nat) (came : Bool), d = L.length - k → k ≤ L.length → ((i : Int) ∈ t → came = true ∨ ∃ p ∈ L.drop k, p ∈ t) →
      Tot (fun K => ferrulelaw11_GraphCloses.l1 K (N : Int) ts (rchd t N) (frm (N : Int) ts N N) ((base + k : Nat) : Int) (i : Int) came (k : Int)) true := by
  have hF : (frm (N : Int) ts N N).length = N := by simp [frm]
  have hl := rchd_length t N
  have hri : rdOf false (rchd t N) (i : Int) = decide ((i : Int) ∈ t) := rchd_rd hi
  intro d
  induction d with
  | zero =>
    intro k came hd hk hc
    have e : k = L.length := by omega
    subst e
    refine cont.step (fun K => ?_)
    rw [ferrulelaw11_GraphCloses.l1, if_pos (by omega), if_pos (by omega), hL, if_neg (by omega), if_pos (by omega), hri, w64n _ (by omega)]
    by_cases d : (i : Int) ∈ t
    · have hc2 : came = true := by
        rcases hc d with h | ⟨p, hp, _⟩
        · exact h
        · rw [List.drop_length] at hp; cases hp
      rw [if_pos (decide_eq_true d), if_pos hc2]
    · rw [if_neg (by simpa using d)]
  | succ d ih =>
    intro k came hd hk hc
    have hlt : k < L.length := by omega
    have hm := hLm _ (List.getElem_mem hlt)
    have hrk := rd_at hlt
    have hdr := List.drop_eq_getElem_cons hlt
    have hasc : (k : Int) > 0 → rd L ((k - 1 : Nat) : Int) < L[k] := by
      intro c
      rw [rd_at (by omega)]
      exact List.pairwise_iff_getElem.1 hup (k - 1) k (by omega) hlt (by omega)
    generalize L[k] = x at hm hrk hdr hasc
    have hrr : rdOf false (rchd t N) x = decide (x ∈ t) := by
      obtain ⟨y, rfl⟩ : ∃ y : Nat, x = (y : Int) := ⟨x.toNat, by omega⟩
      exact rchd_rd (by omega)
    have w1 : (k : Int) > 0 → wrap64 ((k : Int) - 1) = ((k - 1 : Nat) : Int) := by
      intro c
      rw [w64 (by omega) (by omega)]; omega
    have W1 := Aside0.mk w1
    clear w1
    generalize hz : rd L ((k - 1 : Nat) : Int) = z at hasc
    by_cases c : came = true
    · have ih := ih (k + 1) true (by omega) (by omega) (fun _ => .inl rfl)
      refine ih.step (fun K => ?_)
      rw [ferrulelaw11_GraphCloses.l1, if_pos (by omega), if_pos (by omega), hL, if_pos (by omega), if_pos c]
      by_cases k0 : (k : Int) > 0
      · rw [if_pos k0, if_pos (by omega), W1.out k0, if_pos (by omega), if_pos (by omega), hrk, hz, if_neg (by have := hasc k0; omega), w64n _ (by omega), w64n _ (by omega)]
        rfl
      · rw [if_neg k0, w64n _ (by omega), w64n _ (by omega)]
        rfl
    · have ih := ih (k + 1) (decide (x ∈ t)) (by omega) (by omega) (fun h => by
        rcases hc h with h | ⟨p, hp, hpt⟩
        · exact absurd h c
        · rw [hdr] at hp
          rcases List.mem_cons.1 hp with rfl | hp
          · exact .inl (decide_eq_true hpt)
          · exact .inr ⟨p, hp, hpt⟩)
      refine ih.step (fun K => ?_)
      rw [ferrulelaw11_GraphCloses.l1, if_pos (by omega), if_pos (by omega), hL, if_pos (by omega), if_neg c, if_pos (by omega), hrk, if_pos (by omega), if_pos (by omega), hrr]
      by_cases k0 : (k : Int) > 0
      · rw [if_pos k0, W1.out k0, if_pos (by omega), if_pos (by omega), hz, if_neg (by have := hasc k0; omega), w64n _ (by omega), w64n _ (by omega)]
        rfl
      · rw [if_neg k0, w64n _ (by omega), w64n _ (by omega)]
        rfl
set_option maxHeartbeats 1000000 in
theorem closes_l0 : ∀ (d i : Nat), d = N - i → i ≤ N → Tot (fun K => ferrulelaw11_GraphCloses.l0 K (N : Int) ts (rchd t N) (frm (N : Int) ts N N) ((come ts N i : Nat) : Int) (i : Int)) true
  | 0, i, hd, hi => by
    have e : i = N := by omega
    subst e
    have h2 := closes_l2 hN hts hlen hW ((come ts i i : Nat) : Int) (by rw [come_told]) _ 0 rfl (Nat.zero_le _)
    refine h2.step (fun K => ?_)
    rw [ferrulelaw11_GraphCloses.l0, if_neg (by omega)]
    rfl
  | d + 1, i, hd, hi => by
    have ih := closes_l0 d (i + 1) (by omega) (by omega)
    have hb : come ts N i ≤ i * N := sm_le (fun j => by rw [inTo_length]; exact cnt_le _ _) _
    have hb2 : i * N ≤ 32 * 32 := Nat.mul_le_mul (by omega) hN
    have h1 := closes_l1 hN hts hlen hW i (come ts N i) (inTo (N : Int) ts N i) (rd_map (by omega)) (by rw [inTo_length]; exact cnt_le _ _) (inTo_rising _ _ _ _) (fun x hx => ⟨(inTo_mem.1 hx).1, (inTo_mem.1 hx).2.1⟩) (by omega) (by omega) ih _ 0 ((i : Int) == 0) rfl (Nat.zero_le _) (fun h => by
      by_cases c : i = 0
      · left; subst c; rfl
      · right
        rcases (hW.mem _).1 h with ho | h0
        · obtain ⟨p, hp, hb⟩ := hW.par _ ho
          have hpo : p ∈ o ++ [0] := by
            obtain ⟨l1, l2, e, hp2⟩ := hb
            rw [e]
            exact List.mem_append_right _ (List.mem_cons_of_mem _ hp2)
          have hpt : p ∈ t := (hW.mem p).2 (by rcases List.mem_append.1 hpo with h | h; exact .inl h; exact .inr (List.mem_singleton.1 h))
          exact ⟨p, by rw [List.drop_zero]; exact inTo_mem.2 ⟨(hW.rg p hpt).1, (hW.rg p hpt).2, hp⟩, hpt⟩
        · omega)
    refine h1.step (fun K => ?_)
    rw [ferrulelaw11_GraphCloses.l0, if_pos (by omega)]
    rfl
end
theorem GraphCloses_pure (a0 : Int) (ts : List (List Int)) (hl : ∀ i, (rd_L1 ts i).length < 4611686018427387904) (hl0 : ts.length < 4611686018427387904) : ∃ k, ferrulelaw11_GraphCloses.f k a0 ts = some true := by
  refine Tot.get (f := fun k => ferrulelaw11_GraphCloses.f k a0 ts) ?_
  obtain ⟨b, hb, hb2⟩ := few_tot ts hl hl0
  obtain ⟨N, hN⟩ : ∃ N : Nat, (N : Int) = wrap64 (1 + (Go.bits .and .i64 a0 31)) ∧ 0 < N ∧ N ≤ 32 := by
    rw [i64_and31, w64 (by omega) (by omega)]
    exact ⟨(1 + a0 % 32).toNat, by omega, by omega, by omega⟩
  obtain ⟨hN, h0, h32⟩ := hN
  cases b with
  | false =>
    refine (Tot.bind (b := fun k t107 => if t107 = true then _ else some true) hb (Tot.neg (by decide) (Tot.pure _))).congr (fun k => rfl)
  | true =>
    obtain ⟨hlen, hts⟩ := hb2 rfl
    obtain ⟨t, o, hw, hW⟩ := walk_tot (n := (N : Int)) (ts := ts) (N := N) rfl (by omega) h0 (fun i => by have := hts i; omega)
    have hr := reach_tot (n := (N : Int)) (N := N) rfl (by omega) hw
    have hf := from_tot (n := (N : Int)) (ts := ts) (N := N) rfl (by omega) (fun i => by have := hts i; omega)
    have h0t : (0 : Int) ∈ t := (hW.mem 0).2 (.inr rfl)
    have hz : rdOf false (rchd t N) 0 = true := by
      have := rchd_rd (t := t) (N := N) (j := 0) h0
      rw [show ((0 : Nat) : Int) = 0 from rfl] at this
      rw [this]
      simpa using h0t
    have hl0 := closes_l0 h32 hts hlen hW N 0 (by omega) (Nat.zero_le _)
    have hj0 : Tot (fun K => ferrulelaw11_GraphCloses.j0 K (N : Int) ts (rchd t N) (frm (N : Int) ts N N) false) true := by
      refine hl0.step (fun K => ?_)
      rw [ferrulelaw11_GraphCloses.j0, if_neg (by decide)]
      rfl
    have hF : (frm (N : Int) ts N N).length = N := by simp [frm]
    have hR := rchd_length t N
    unfold ferrulelaw11_GraphCloses.f
    rw [← hN]
    refine Tot.bind (b := fun k t107 => if t107 = true then _ else some true) hb (Tot.pos rfl ?_)
    refine Tot.bind (b := fun k t108 => ((graph_From.f k (N : Int) ts).bind fun t111 => _)) hr ?_
    refine Tot.bind (b := fun k t111 => _) hf ?_
    refine hj0.congr (fun K => ?_)
    rw [if_pos (by omega), if_pos (by omega), if_pos (by omega), hz]
    rfl
end Go.Proofs.Ytafjbebbmfihaaa.P
