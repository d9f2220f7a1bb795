/- What graph.Doms holds in memory, and what its stores do; no condition. -/
import Derived.Test.YtafjbebbmfihaaaHFrom
import Derived.Test.YtafjbebbmfihaaaHMeet
namespace Go.Proofs.Ytafjbebbmfihaaa.P
open Go.RowKit Go.Proofs.YtafjbebbmfihaaaW.PrintWords Go.Proofs.YtafjbebbmfihaaaW.PrintLast Go.Proofs.YtafjbebbmfihaaaW.PrintMore
set_option linter.unusedVariables false
set_option linter.unusedSimpArgs false
set_option linter.unusedSectionVars false

/-- The two tables, each in a variable of its own, and the two lists. -/
structure DSt (w0 wr : World) (s2 pb bp nb bn m cp cn : Nat) (vo vf : Value) (order : List Int) (frm : List (List Int)) (place near : List Int) : Prop where
  hb : Below w0.heap.size w0 wr
  ho : Kd.R (Kd.int .i64) 3 wr w0.heap.size (fun k => k < s2) vo order
  hf : Kd.S KR 27 wr w0.heap.size (fun k => k < s2) vf frm
  bcp : wr.heap[bp]? = some (.cells #[.slice (some ⟨pb, 0, none⟩) m cp] 27 (0, 0))
  bcn : wr.heap[bn]? = some (.cells #[.slice (some ⟨nb, 0, none⟩) m cn] 27 (0, 0))
  hp : Kd.R (Kd.int .i64) 3 wr w0.heap.size (fun k => k = pb) (.slice (some ⟨pb, 0, none⟩) m cp) place
  hn : Kd.R (Kd.int .i64) 3 wr w0.heap.size (fun k => k = nb) (.slice (some ⟨nb, 0, none⟩) m cn) near
  num : w0.heap.size ≤ s2 ∧ s2 ≤ pb ∧ pb < bp ∧ bp < nb ∧ nb < bn
section
variable {w0 wr : World} {s2 pb bp nb bn m cp cn : Nat} {vo vf : Value} {order : List Int} {frm : List (List Int)} {place near : List Int}
theorem DSt.drewN (h : DSt w0 wr s2 pb bp nb bn m cp cn vo vf order frm place near) (n : Nat) : DSt w0 (wr.drewN n) s2 pb bp nb bn m cp cn vo vf order frm place near :=
  ⟨pw_below_drewN h.hb n, Kd.R_drewN h.ho n, Kd.S_drewN h.hf n, h.bcp, h.bcn, Kd.R_drewN h.hp n, Kd.R_drewN h.hn n, h.num⟩
theorem DSt.plen (h : DSt w0 wr s2 pb bp nb bn m cp cn vo vf order frm place near) : place.length = m := (Kd.R_reads' h.hp).1.symm
theorem DSt.nlen (h : DSt w0 wr s2 pb bp nb bn m cp cn vo vf order frm place near) : near.length = m := (Kd.R_reads' h.hn).1.symm
theorem DSt.setPlace (h : DSt w0 wr s2 pb bp nb bn m cp cn vo vf order frm place near) (j x : Int) : DSt w0 (wr.setCell ⟨pb, j.toNat, none⟩ (.int .i64 x)) s2 pb bp nb bn m cp cn vo vf order frm (place.set j.toNat x) near := by
  obtain ⟨n1, n2, n3, n4, n5⟩ := h.num
  have hq := Kd.R_putg h.hp j x
  refine ⟨h.hb.setCell (by show _ ≤ pb; omega) _, Kd.R_far (p := ⟨pb, j.toNat, none⟩) h.ho (fun k hk => by show k ≠ pb; omega) _, Kd.S_far (p := ⟨pb, j.toNat, none⟩) h.hf (fun k hk => by show k ≠ pb; omega) _, ?_, ?_, hq.1, Kd.R_far (p := ⟨pb, j.toNat, none⟩) h.hn (fun k hk => by show k ≠ pb; omega) _, h.num⟩
  · rw [Below.heap_setCell _ _ _ _ (by show bp ≠ pb; omega)]; exact h.bcp
  · rw [Below.heap_setCell _ _ _ _ (by show bn ≠ pb; omega)]; exact h.bcn
theorem DSt.setNear (h : DSt w0 wr s2 pb bp nb bn m cp cn vo vf order frm place near) (j x : Int) : DSt w0 (wr.setCell ⟨nb, j.toNat, none⟩ (.int .i64 x)) s2 pb bp nb bn m cp cn vo vf order frm place (near.set j.toNat x) := by
  obtain ⟨n1, n2, n3, n4, n5⟩ := h.num
  have hq := Kd.R_putg h.hn j x
  refine ⟨h.hb.setCell (by show _ ≤ nb; omega) _, Kd.R_far (p := ⟨nb, j.toNat, none⟩) h.ho (fun k hk => by show k ≠ nb; omega) _, Kd.S_far (p := ⟨nb, j.toNat, none⟩) h.hf (fun k hk => by show k ≠ nb; omega) _, ?_, ?_, Kd.R_far (p := ⟨nb, j.toNat, none⟩) h.hp (fun k hk => by show k ≠ nb; omega) _, hq.1, h.num⟩
  · rw [Below.heap_setCell _ _ _ _ (by show bp ≠ nb; omega)]; exact h.bcp
  · rw [Below.heap_setCell _ _ _ _ (by show bn ≠ nb; omega)]; exact h.bcn
end
/-- The first j cells are -1. -/
def mone (m j : Nat) : List Int := (List.range m).map fun (i : Nat) => if i < j then -1 else 0
theorem mone_length (m j : Nat) : (mone m j).length = m := by simp [mone]
theorem mone_zero (m : Nat) : mone m 0 = List.replicate m 0 := by
  apply List.ext_getElem
  · simp [mone]
  · intro i h1 h2
    simp [mone]
theorem own_slice {A : Option Addr} {n c g : Nat} {w : World} {base : Nat} {ok : Nat → Prop} {xs : List Int} (h : Kd.R (Kd.int .i64) 3 w base ok (.slice A n c) xs) (hg : (Value.slice A n c).ownBlock = some g) : A = some ⟨g, 0, none⟩ := by
  cases A with
  | none => simp [Value.ownBlock] at hg
  | some ad =>
    obtain ⟨g', rfl⟩ := Kd.R_head h
    simp [Value.ownBlock] at hg
    rw [hg]
theorem DSt.start {w w2 w3 w5 : World} {A3 A5 : Option Addr} {pb nb m cp cn : Nat} {vo vf : Value} {order : List Int} {frm : List (List Int)}
    (HO2 : Kd.R (Kd.int .i64) 3 w2 w.heap.size (fun _ => True) vo order) (HF : Kd.S KR 27 w2 w.heap.size (fun _ => True) vf frm) (HB2 : Below w.heap.size w w2)
    (HP3 : Kd.R (Kd.int .i64) 3 w3 w2.heap.size (fun _ => True) (.slice A3 m cp) (List.replicate m 0)) (HB3 : Below w2.heap.size w2 w3) (HPB : (Value.slice A3 m cp).ownBlock = some pb) (HPB2 : w2.heap.size ≤ pb)
    (HN5 : Kd.R (Kd.int .i64) 3 w5 (w3.heap.size + 1) (fun _ => True) (.slice A5 m cn) (List.replicate m 0)) (HB5 : Below (w3.heap.size + 1) (w3.alloc (Obj.cells #[.slice A3 m cp] 27)) w5) (HNB : (Value.slice A5 m cn).ownBlock = some nb) (HNB2 : (w3.alloc (Obj.cells #[.slice A3 m cp] 27)).heap.size ≤ nb) :
    A3 = some ⟨pb, 0, none⟩ ∧ A5 = some ⟨nb, 0, none⟩ ∧ DSt w (w5.alloc (Obj.cells #[.slice A5 m cn] 27)) w2.heap.size pb w3.heap.size nb w5.heap.size m cp cn vo vf order frm (mone m 0) (mone m 0) := by
  have hsz : (w3.alloc (Obj.cells #[.slice A3 m cp] 27)).heap.size = w3.heap.size + 1 := by simp
  have eA3 := own_slice HP3 HPB
  have eA5 := own_slice HN5 HNB
  have l1 := Kd.R_lt HP3 pb HPB
  have l2 := Kd.R_lt HN5 nb HNB
  rw [hsz] at HNB2
  rw [← hsz] at HB5
  have b3 : Below w.heap.size w w3 := below_step HB2 HB3
  have b4 : Below w.heap.size w (w3.alloc (Obj.cells #[.slice A3 m cp] 27)) := below_alloc b3 _
  have b5 : Below w.heap.size w w5 := below_step b4 HB5
  have s23 := HB3.size
  have s2 := HB2.size
  have s5 := HB5.size
  rw [hsz] at s5
  have hP : Kd.R (Kd.int .i64) 3 w3 w2.heap.size (fun k => k = pb) (.slice A3 m cp) (List.replicate m 0) := ⟨fun k hk => by rw [HPB] at hk; exact (Option.some.inj hk).symm, HP3.2⟩
  have hN : Kd.R (Kd.int .i64) 3 w5 (w3.heap.size + 1) (fun k => k = nb) (.slice A5 m cn) (List.replicate m 0) := ⟨fun k hk => by rw [HNB] at hk; exact (Option.some.inj hk).symm, HN5.2⟩
  rw [mone_zero]
  refine ⟨eA3, eA5, below_alloc b5 _, ?_, ?_, ?_, ?_, ?_, ?_, ⟨s2, HPB2, l1, by omega, l2⟩⟩
  · exact Kd.R_alloc (Kd.R_below (Kd.R_alloc (Kd.R_below (Kd.R_mono (Kd.R_bound HO2) (fun k hk => hk.2.2.1)) HB3) _) HB5) _
  · exact Kd.S_alloc (Kd.S_below (Kd.S_alloc (Kd.S_below (Kd.S_mono (Kd.S_bound HF) (fun k hk => hk.2.2.1)) HB3) _) HB5) _
  · rw [heap_alloc_old _ _ (by omega), HB5.block _ (by rw [hsz]; omega), heap_alloc_new, eA3]
  · rw [heap_alloc_new, eA5]
  · rw [← eA3]
    exact Kd.R_alloc (Kd.R_below (Kd.R_alloc (Kd.R_lower hP s2) _) HB5) _
  · rw [← eA5]
    exact Kd.R_alloc (Kd.R_lower hN (by omega)) _
theorem mone_all (m : Nat) : mone m m = List.replicate m (-1) := by
  apply List.ext_getElem
  · simp [mone]
  · intro i h1 h2
    have : i < m := by simpa [mone] using h1
    simp [mone, this]
theorem mone_set (m j : Nat) : (mone m j).set j (-1) = mone m (j + 1) := by
  apply List.ext_getElem
  · simp [mone]
  · intro i h1 h2
    simp only [mone, List.getElem_set, List.getElem_map, List.getElem_range]
    by_cases c : j = i
    · rw [if_pos c, if_pos (by omega)]
    · rw [if_neg c]
      by_cases d : i < j
      · rw [if_pos d, if_pos (by omega)]
      · rw [if_neg d, if_neg (by omega)]
theorem places_len : ∀ {bs : List Int} {i : Int} {p q : List Int}, graph_Doms.places bs i p = some q → q.length = p.length
  | [], _, p, q, h => by simp only [graph_Doms.places, Option.some.injEq] at h; rw [h]
  | b :: bs, i, p, q, h => by
    unfold graph_Doms.places at h
    split at h
    · have := places_len h
      rw [this, List.length_set]
    · cases h
end Go.Proofs.Ytafjbebbmfihaaa.P
