/- graph.walk and its closure do what graph_walk.f says, whatever is done with a block that is left; no condition. -/
import Derived.Test.YtafjbebbmfihaaaHDefs
import Derived.Test.YtafjbebbmfihaaaMaps
import Derived.Laws.EntriesVeiled
namespace Go.Proofs.Ytafjbebbmfihaaa.P
open Go.RowKit Go.Proofs.YtafjbebbmfihaaaW.PrintWords Go.Proofs.YtafjbebbmfihaaaW.PrintLast Go.Proofs.YtafjbebbmfihaaaW.PrintMore
set_option linter.unusedVariables false
set_option linter.unusedSimpArgs false
set_option linter.unusedSectionVars false

abbrev ptr (b : Nat) : Value := .pointer (some ⟨b, 0, none⟩)
theorem zero4 (w : World) : (zeroValue 4).run Try.prog w = .ok (.bool false) w := by kernel_rfl
theorem zero3 (w : World) : (zeroValue 3).run Try.prog w = .ok (.int .i64 0) w := by kernel_rfl

theorem ca_new (w : World) (v : Value) (t : TypeId) (b : Nat) (hb : b = w.heap.size) : (w.alloc (.cells #[v] t)).cell? ⟨b, 0, none⟩ = some v := by
  subst hb
  have := heap_alloc_new w (.cells #[v] t)
  unfold World.cell?
  dsimp only
  rw [this]
  rfl
theorem ca_old {w : World} {o : Obj} {a : Addr} {v : Value} (h : w.cell? a = some v) : (w.alloc o).cell? a = some v := pw_cell_below (below_alloc (Below.refl _ _) o) h
/-- What is done with a block that is left: L out w F: w holds what was gathered so far, in the blocks of F; one more is gathered by a call. -/
structure LeftOK (w0 : World) (fl : Nat) (cap : Array Value) (L : List Int → World → (Nat → Prop) → Prop) : Prop where
  move : ∀ out w F, L out w F → ∀ w', (∀ b, F b → w'.heap[b]? = w.heap[b]?) → L out w' F
  lt : ∀ out w F, L out w F → ∀ b, F b → b < w.heap.size
  enters : ∀ args w, (callFunc fl args).run Try.prog w = .ok (.enter fl args) w
  call : ∀ out w F i, out.length < 1000000 → L out w F → Below w0.heap.size w0 w → Calls Try.prog fl (#[.int .i64 i] ++ cap) w fun e w' => e = .returned (.tuple #[]) ∧ Below w0.heap.size w0 w' ∧ Kept w w' F ∧ ∃ F', L (out ++ [i]) w' F' ∧ ∀ b, F' b → F b ∨ w.heap.size ≤ b

/-- The closure's captured variables, and what is apart from them. -/
structure WEnv (w0 w : World) (bs bn bt bf bl bm : Nat) (n : Int) (A1 : Option Addr) (c1 m1 : Nat) (lv : Value) (F : Nat → Prop) : Prop where
  cs : w.cell? ⟨bs, 0, none⟩ = some (.map (some bm))
  cn : w.cell? ⟨bn, 0, none⟩ = some (.int .i64 n)
  ct : w.cell? ⟨bt, 0, none⟩ = some (.slice A1 m1 c1)
  cf : w.cell? ⟨bf, 0, none⟩ = some (.func (.func 36) #[] #[ptr bs, ptr bn, ptr bt, ptr bf, ptr bl])
  cl : w.cell? ⟨bl, 0, none⟩ = some lv
  hb : Below w0.heap.size w0 w
  hm : w0.heap.size ≤ bm
  hF : ∀ b, F b → w0.heap.size ≤ b ∧ b ≠ bm ∧ b ≠ bs ∧ b ≠ bn ∧ b ≠ bt ∧ b ≠ bf ∧ b ≠ bl
  ne : bs ≠ bm ∧ bn ≠ bm ∧ bt ≠ bm ∧ bf ≠ bm ∧ bl ≠ bm

section
variable {w0 w w' : World} {bs bn bt bf bl bm : Nat} {n : Int} {A1 : Option Addr} {c1 m1 : Nat} {lv : Value} {F F' : Nat → Prop}
theorem WEnv.step (h : WEnv w0 w bs bn bt bf bl bm n A1 c1 m1 lv F) (hk : Kept w w' (fun b => b = bm ∨ F b)) (hb : Below w0.heap.size w0 w') (hF : ∀ b, F' b → F b ∨ w.heap.size ≤ b) (hm : bm < w.heap.size) : WEnv w0 w' bs bn bt bf bl bm n A1 c1 m1 lv F' := by
  have ls := World.block_lt_of_cell? w _ h.cs
  have ln := World.block_lt_of_cell? w _ h.cn
  have lt := World.block_lt_of_cell? w _ h.ct
  have lf := World.block_lt_of_cell? w _ h.cf
  have ll := World.block_lt_of_cell? w _ h.cl
  have l0 := h.hb.size
  obtain ⟨e1, e2, e3, e4, e5⟩ := h.ne
  refine ⟨cell_kept h.cs hk ?_, cell_kept h.cn hk ?_, cell_kept h.ct hk ?_, cell_kept h.cf hk ?_, cell_kept h.cl hk ?_, hb, h.hm, ?_, h.ne⟩
  · rintro (e | e)
    · exact e1 e
    · exact (h.hF _ e).2.2.1 rfl
  · rintro (e | e)
    · exact e2 e
    · exact (h.hF _ e).2.2.2.1 rfl
  · rintro (e | e)
    · exact e3 e
    · exact (h.hF _ e).2.2.2.2.1 rfl
  · rintro (e | e)
    · exact e4 e
    · exact (h.hF _ e).2.2.2.2.2.1 rfl
  · rintro (e | e)
    · exact e5 e
    · exact (h.hF _ e).2.2.2.2.2.2 rfl
  · intro b hb'
    simp only at ls ln lt lf ll
    rcases hF b hb' with h1 | h1
    · exact h.hF b h1
    · omega
end

section
variable (w0 : World) (bs bn bt bf bl bm : Nat) (n : Int) (A1 : Option Addr) (c1 : Nat) (l1 : List (List Int)) (fl : Nat) (cap : Array Value) (L : List Int → World → (Nat → Prop) → Prop)
/-- The state around the closure: its variables, the set of blocks entered, what was gathered. -/
structure WSt (w : World) (seen out : List Int) (F : Nat → Prop) : Prop where
  env : WEnv w0 w bs bn bt bf bl bm n A1 c1 l1.length (.func (.func fl) #[] cap) F
  map : IMap w bm (bset seen)
  left : L out w F
/-- What a call of the closure leaves. -/
def WPost (w w' : World) (F : Nat → Prop) (seen out : List Int) : Prop :=
  ∃ F', WSt w0 bs bn bt bf bl bm n A1 c1 l1 fl cap L w' seen out F' ∧ Kept w w' (fun b => b = bm ∨ F b) ∧ ∀ b, F' b → F b ∨ w.heap.size ≤ b

theorem WSt.put {w w1 : World} {seen out : List Int} {F : Nat → Prop} {i : Int} (hL : LeftOK w0 fl cap L) (h : WSt w0 bs bn bt bf bl bm n A1 c1 l1 fl cap L w seen out F) (hi : i ∉ seen) (hm : IMap w1 bm (imPut (bset seen) i (.bool true))) (hg : w.grownBy w1 (some bm)) :
    WSt w0 bs bn bt bf bl bm n A1 c1 l1 fl cap L w1 (seen ++ [i]) out F ∧ Kept w w1 (fun b => b = bm ∨ F b) := by
  have hk : Kept w w1 (fun b => b = bm ∨ F b) := Kept.of_grown hg (Kept.refl _ _) (fun k e => by cases e; exact .inl (.inl rfl))
  refine ⟨⟨h.env.step hk (h.env.hb.grown hg h.env.hb.size (fun k e => by cases e; exact h.env.hm)) (fun b hb => .inl hb) h.map.lt, ?_, hL.move _ _ _ h.left _ (fun b hb => hg.block b (hL.lt _ _ _ h.left b hb) (fun e => ?_))⟩, hk⟩
  · rw [← imPut_bset seen i hi]
    exact hm
  · cases e
    exact (h.env.hF _ hb).2.1 rfl
theorem WSt.below {w w1 : World} {seen out : List Int} {F : Nat → Prop} (hL : LeftOK w0 fl cap L) (h : WSt w0 bs bn bt bf bl bm n A1 c1 l1 fl cap L w seen out F) (hb : Below w.heap.size w w1) :
    WSt w0 bs bn bt bf bl bm n A1 c1 l1 fl cap L w1 seen out F :=
  ⟨h.env.step (Kept.of_below hb _) (below_step h.env.hb hb) (fun b hb => .inl hb) h.map.lt, h.map.move (hb.block _ h.map.lt), hL.move _ _ _ h.left _ (fun b hF => hb.block b (hL.lt _ _ _ h.left b hF))⟩
theorem WSt.fwd {w wr w3 : World} {seen out : List Int} {F Fj : Nat → Prop} (hk : Kept w wr (fun b => b = bm ∨ F b)) (hF : ∀ b, Fj b → F b ∨ w.heap.size ≤ b) (hp : WPost w0 bs bn bt bf bl bm n A1 c1 l1 fl cap L wr w3 Fj seen out) :
    ∃ F', WSt w0 bs bn bt bf bl bm n A1 c1 l1 fl cap L w3 seen out F' ∧ Kept w w3 (fun b => b = bm ∨ F b) ∧ (∀ b, F' b → F b ∨ w.heap.size ≤ b) ∧ Kept wr w3 (fun b => b = bm ∨ Fj b) ∧ ∀ b, F' b → Fj b ∨ wr.heap.size ≤ b := by
  obtain ⟨F', h1, h2, h3⟩ := hp
  refine ⟨F', h1, hk.then_ h2 ?_, ?_, h2, h3⟩
  · rintro b (e | e)
    · exact .inl (.inl e)
    · rcases hF b e with e | e
      · exact .inl (.inr e)
      · exact .inr e
  · intro b hb
    rcases h3 b hb with e | e
    · exact hF b e
    · exact .inr (Nat.le_trans hk.1 e)
/-- The row of ways, over such a call. -/
theorem ways_kept {wr w3 : World} {Fj F' : Nat → Prop} {B : Nat} {v : Value} {ws : List Int} (h : Kd.R (Kd.int .i64) 3 wr B (fun b => b ≠ bm ∧ ¬ Fj b) v ws) (hk : Kept wr w3 (fun b => b = bm ∨ Fj b)) (hF : ∀ b, F' b → Fj b ∨ wr.heap.size ≤ b) :
    Kd.R (Kd.int .i64) 3 w3 B (fun b => b ≠ bm ∧ ¬ F' b) v ws := by
  refine Kd.R_mono (Kd.R_kept (Kd.R_bound h) hk ?_) ?_
  · rintro b ⟨⟨h1, h2⟩, _⟩ (e | e)
    · exact h1 e
    · exact h2 e
  · rintro b ⟨⟨h1, h2⟩, _, h4, _⟩
    refine ⟨h1, fun hb => ?_⟩
    rcases hF b hb with e | e
    · exact h2 e
    · omega

set_option maxHeartbeats 1000000 in
set_option maxRecDepth 100000 in
theorem walk1_calls (hL : LeftOK w0 fl cap L) (hr1 : Kd.C (Kd.slice 3 (Kd.int .i64)) w0 A1 l1.length l1) (hc1 : l1.length ≤ c1) (k : Nat) : ∀ (i : Int) (seen out : List Int) (w : World) (F : Nat → Prop) (seen' out' : List Int),
    WSt w0 bs bn bt bf bl bm n A1 c1 l1 fl cap L w seen out F → i ∉ seen → graph_walk.go k n l1 i seen out = some (seen', out') →
    Calls Try.prog 36 #[.int .i64 i, ptr bs, ptr bn, ptr bt, ptr bf, ptr bl] w fun e w' => e = .returned (.tuple #[]) ∧ WPost w0 bs bn bt bf bl bm n A1 c1 l1 fl cap L w w' F seen' out' := by
  induction k using Nat.strongRecOn with
  | _ k ih =>
  intro i seen out w F seen' out' hst hi h
  cases k with
  | zero => exact absurd h (by simp [graph_walk.go])
  | succ k =>
  simp only [graph_walk.go] at h
  obtain ⟨ws, hws, h⟩ := Option.bind_eq_some_iff.1 h
  by_cases hlen : ws.length < 1000000
  case neg => rw [if_neg hlen] at h; cases h
  rw [if_pos hlen] at h
  have IH := Aside0.mk ih
  have H := Aside0.mk h
  have HW := Aside0.mk hws
  have ST := Aside0.mk hst
  have HLEN := Aside0.mk hlen
  have HI := Aside0.mk hi
  have HC := Aside0.mk hr1
  have HC1 := Aside0.mk hc1
  have HL := Aside0.mk hL
  have hcs := hst.env.cs
  have hM := Aside0.mk hst.map
  clear ih h hws hst hlen hi hr1 hc1 hL
  go_enter Try.func36, Try.ntmps36
  go_wp2_with (first
    | (at_mapUpdate; refine wpList_im_put rfl _ _ _ 45 3 4 rfl Try.underlying45 Try.underlying3 bm (bset seen) rfl hM.out i rfl (.bool true) rfl ?_; intro w1 hM1 hg1; have hp := Aside0.mk (WSt.put _ _ _ _ _ _ _ _ _ _ _ _ _ _ HL.out ST.out HI.out hM1 hg1); clear hM1 hg1 hM hcs; have hcn := hp.out.1.env.cn; have hct := hp.out.1.env.ct)
    | (go_at_call 27; refine (graph_ways.calls k n A1 c1 l1 i ws _ (Kd.C_below HC.out hp.out.1.env.hb) HC1.out HW.out).mono ?_; rintro e w2 ⟨v, rfl, hv0, hb20⟩; obtain ⟨A, c, rfl⟩ := Kd.R_slice hv0; have hv := Aside0.mk hv0; have hb2 := Aside0.mk hb20; clear hv0 hb20 hcn hct))
  have hst2 := Aside0.mk (WSt.below _ _ _ _ _ _ _ _ _ _ _ _ _ _ HL.out hp.out.1 hb2.out)
  have hk2 := Aside0.mk (hp.out.2.below hb2.out)
  have hrow : Aside0 (Kd.R (Kd.int .i64) 3 w2 w1.heap.size (fun b => b ≠ bm ∧ ¬ F b) (.slice A ws.length c) ws) := ⟨Kd.R_mono (Kd.R_bound hv.out) (fun b hb => ⟨fun e => by have := hp.out.1.map.lt; have := hb.2.1; omega, fun e => by have := HL.out.lt _ _ _ hp.out.1.left b e; have := hb.2.1; omega⟩)⟩
  clear hp hb2 hv HI
  go_loopg [16] k (fun kq v16 wr => ∃ (j : Nat) (sj oj : List Int) (Fj : Nat → Prop), v16 = .int .i64 (j : Int) ∧ Aside0 (j ≤ ws.length) ∧ Aside0 (kq ≤ k) ∧ Aside0 (graph_walk.lo kq n l1 i (ws.drop j) sj oj = some (seen', out')) ∧ Aside0 (WSt w0 bs bn bt bf bl bm n A1 c1 l1 fl cap L wr sj oj Fj) ∧ Aside0 (Kept w wr (fun b => b = bm ∨ F b)) ∧ Aside0 (∀ b, Fj b → F b ∨ w.heap.size ≤ b) ∧ Aside0 (Kd.R (Kd.int .i64) 3 wr w1.heap.size (fun b => b ≠ bm ∧ ¬ Fj b) (.slice A ws.length c) ws))
  case atStart => exact ⟨0, seen ++ [i], out, F, rfl, ⟨Nat.zero_le _⟩, ⟨Nat.le_refl _⟩, H, hst2, hk2, ⟨fun b hb => .inl hb⟩, hrow⟩
  case round =>
    clear hst2 hk2 hrow H
    obtain ⟨j, sj, oj, Fj, rfl, hj, hkq, H, hst, hk, hF, hrow⟩ := hrel
    cases gk with
    | zero => exact absurd H.out (by simp [graph_walk.lo])
    | succ k1 =>
    have hjn : Aside0 (j < 1000000) := ⟨by have := hj.out; have := HLEN.out; omega⟩
    by_cases hlt : j < ws.length
    · have hd : ws.drop j = ws[j] :: ws.drop (j + 1) := List.drop_eq_getElem_cons hlt
      obtain ⟨x, hx⟩ : ∃ x, x = ws[j] := ⟨_, rfl⟩
      have h := H.out
      rw [hd] at h
      simp only [graph_walk.lo] at h
      rw [← hx] at h
      obtain ⟨ad, e1, hcell⟩ := Kd.at_int (Kd.R_reads' hrow.out).2.2 (j : Int) (by omega) (by omega)
      cases e1
      rw [Int.toNat_natCast] at hcell
      have e2 : rd ws (j : Int) = x := by rw [hx]; simp [rd, hlt]
      rw [e2] at hcell
      clear hx hd H e2
      have hb1 : (j : Int) + 1 ≤ 1000000 := by have := hjn.out; omega
      have hb2 : (j : Int) < ws.length := by omega
      have hcs := hst.out.env.cs
      have hcf := hst.out.env.cf
      have hM := Aside0.mk hst.out.map
      by_cases hin : x ∈ sj
      · rw [if_pos hin] at h
        have H := Aside0.mk h
        have hdec : decide (x ∈ sj) = true := decide_eq_true hin
        clear h hin hlt
        go_wp2_with (first
          | (at_lookup; refine wpList_im_look rfl _ _ 45 3 4 false rfl Try.underlying45 Try.underlying3 (.bool false) zero4 bm (bset sj) rfl hM.out x rfl ?_; simp only [Bool.false_eq_true, if_false, imGet_bset, hdec])
          | fail)
        go_roundg k1
        case measure => omega
        case rel => exact ⟨j + 1, sj, oj, Fj, by go_num, ⟨by omega⟩, ⟨by have := hkq.out; omega⟩, H, hst, hk, hF, hrow⟩
      · rw [if_neg hin] at h
        obtain ⟨st, hgo, h⟩ := Option.bind_eq_some_iff.1 h
        have H := Aside0.mk h
        have HGO := Aside0.mk hgo
        have HIN := Aside0.mk hin
        have hdec : decide (x ∈ sj) = false := decide_eq_false hin
        have HLT := Aside0.mk hlt
        clear h hgo hin hlt
        go_wp2_with (first
          | (at_lookup; refine wpList_im_look rfl _ _ 45 3 4 false rfl Try.underlying45 Try.underlying3 (.bool false) zero4 bm (bset sj) rfl hM.out x rfl ?_; simp only [Bool.false_eq_true, if_false, imGet_bset, hdec])
          | (go_at_call 36; refine (IH.out k1 (by have := hkq.out; omega) x sj oj _ Fj st.1 st.2 hst.out HIN.out HGO.out).mono ?_; rintro e w3 ⟨rfl, hpost⟩; have hp3 := Aside0.mk (WSt.fwd _ _ _ _ _ _ _ _ _ _ _ _ _ _ hk.out hF.out hpost); clear hpost))
        go_roundg k1
        case measure => omega
        case rel =>
          obtain ⟨F', g1, g2, g3, g4, g5⟩ := hp3.out
          exact ⟨j + 1, st.1, st.2, F', by go_num, ⟨by have := HLT.out; omega⟩, ⟨by have := hkq.out; omega⟩, H, ⟨g1⟩, ⟨g2⟩, ⟨g3⟩, ⟨ways_kept _ hrow.out g4 g5⟩⟩
    · have hd : ws.drop j = [] := List.drop_eq_nil_of_le (by omega)
      have h := H.out
      rw [hd] at h
      simp only [graph_walk.lo] at h
      by_cases ho : oj.length < 1000000
      case neg => rw [if_neg ho] at h; cases h
      rw [if_pos ho] at h
      have H := Aside0.mk h
      have HO := Aside0.mk ho
      have hcl := hst.out.env.cl
      have hnl : ¬ (j : Int) < ws.length := by omega
      have hen := HL.out.enters
      clear h ho hd hlt
      go_wp2_with fail
      refine (HL.out.call oj _ Fj i HO.out hst.out.left hst.out.env.hb).mono ?_
      rintro e w3 ⟨rfl, hb3, hk3, F', hl3, hF3⟩
      have hp3 := Aside0.mk (show ∃ F', L (oj ++ [i]) w3 F' ∧ ∀ b, F' b → Fj b ∨ wr.heap.size ≤ b from ⟨F', hl3, hF3⟩)
      have HB3 := Aside0.mk hb3
      have HK3 := Aside0.mk hk3
      clear hl3 hF3 hb3 hk3
      go_wp2
      go_end0
      have h2 := H.out
      simp only [Option.some.injEq, Prod.mk.injEq] at h2
      obtain ⟨rfl, rfl⟩ := h2
      obtain ⟨F', hl3, hF3⟩ := hp3.out
      have hk4 : Kept wr w3 (fun b => b = bm ∨ Fj b) := HK3.out.mono (fun _ hb => .inr hb)
      have hmb : w3.heap[bm]? = wr.heap[bm]? := HK3.out.2 bm hst.out.map.lt (fun e => (hst.out.env.hF _ e).2.1 rfl)
      obtain ⟨F2, g1, g2, g3, _, _⟩ := WSt.fwd w0 bs bn bt bf bl bm n A1 c1 l1 fl cap L hk.out hF.out (⟨F', ⟨hst.out.env.step hk4 HB3.out hF3 hst.out.map.lt, hst.out.map.move hmb, hl3⟩, hk4, hF3⟩ : WPost w0 bs bn bt bf bl bm n A1 c1 l1 fl cap L wr w3 Fj sj (oj ++ [i]))
      exact ⟨rfl, F2, g1, g2, g3⟩

/-- The world when the closure is called first. -/
theorem wst_start (hL : LeftOK w0 fl cap L) (w : World) (F0 : Nat → Prop) (hB : Below w0.heap.size w0 w) (hl : L [] w F0) (hF0 : ∀ b, F0 b → w0.heap.size ≤ b) :
    WSt w0 (w.heap.size + 1 + 1 + 1 + 1) w.heap.size (w.heap.size + 1) (w.heap.size + 1 + 1 + 1 + 1 + 1) (w.heap.size + 1 + 1) (w.heap.size + 1 + 1 + 1) n A1 c1 l1 fl cap L
      ((((((w.alloc (.cells #[.int .i64 n] 3)).alloc (.cells #[.slice A1 l1.length c1] 22)).alloc (.cells #[.func (.func fl) #[] cap] 47)).alloc (.map #[] 0)).alloc (.cells #[.map (some (w.heap.size + 1 + 1 + 1))] 45)).alloc
        (.cells #[.func (.func 36) #[] #[ptr (w.heap.size + 1 + 1 + 1 + 1), ptr w.heap.size, ptr (w.heap.size + 1), ptr (w.heap.size + 1 + 1 + 1 + 1 + 1), ptr (w.heap.size + 1 + 1)]] 47)) [] [] F0 := by
  have hsz := hB.size
  have hlt := hL.lt _ _ _ hl
  have hbel : ∀ o1 o2 o3 o4 o5 o6, Below w.heap.size w ((((((w.alloc o1).alloc o2).alloc o3).alloc o4).alloc o5).alloc o6) := fun o1 o2 o3 o4 o5 o6 => below_alloc (below_alloc (below_alloc (below_alloc (below_alloc (below_alloc (Below.refl _ _) _) _) _) _) _) _
  refine ⟨⟨?_, ?_, ?_, ?_, ?_, below_step hB (hbel _ _ _ _ _ _), by omega, ?_, by omega⟩, ?_, hL.move _ _ _ hl _ (fun b hb => (hbel _ _ _ _ _ _).block b (hlt b hb))⟩
  · exact ca_old (ca_new _ _ _ _ (by simp))
  · exact ca_old (ca_old (ca_old (ca_old (ca_old (ca_new _ _ _ _ (by simp))))))
  · exact ca_old (ca_old (ca_old (ca_old (ca_new _ _ _ _ (by simp)))))
  · exact ca_new _ _ _ _ (by simp)
  · exact ca_old (ca_old (ca_old (ca_new _ _ _ _ (by simp))))
  · intro b hb
    have := hlt b hb
    have := hF0 b hb
    omega
  · refine (IMap.alloc (IMap.alloc ?_ _) _)
    have := IMap.made (((w.alloc (.cells #[.int .i64 n] 3)).alloc (.cells #[.slice A1 l1.length c1] 22)).alloc (.cells #[.func (.func fl) #[] cap] 47))
    simpa [bset] using this

def WalkEnd (w0 : World) (L : List Int → World → (Nat → Prop) → Prop) (w : World) (F0 : Nat → Prop) (seen out : List Int) (e : Ending) (w' : World) : Prop :=
  ∃ (bm : Nat) (F' : Nat → Prop), e = .returned (.map (some bm)) ∧ IMap w' bm (bset seen) ∧ w.heap.size ≤ bm ∧ L out w' F' ∧ Below w0.heap.size w0 w' ∧ Kept w w' F0 ∧ (∀ b, F' b → F0 b ∨ w.heap.size ≤ b) ∧ ¬ F' bm

set_option maxHeartbeats 1000000 in
set_option maxRecDepth 100000 in
theorem walk_calls (hL : LeftOK w0 fl cap L) (hr1 : Kd.C (Kd.slice 3 (Kd.int .i64)) w0 A1 l1.length l1) (hc1 : l1.length ≤ c1) (k : Nat) (w : World) (F0 : Nat → Prop) (seen out : List Int)
    (hB : Below w0.heap.size w0 w) (hl : L [] w F0) (hF0 : ∀ b, F0 b → w0.heap.size ≤ b) (h : graph_walk.f k n l1 = some (seen, out)) :
    Calls Try.prog 25 #[.int .i64 n, .slice A1 l1.length c1, .func (.func fl) #[] cap] w (WalkEnd w0 L w F0 seen out) := by
  have hmm := @run_makeMap Try.prog
  have hmf : ∀ (fn : Fn) (first cap : Array Value) (w : World), (Instr.makeFunc fn first cap).run Try.prog w = .ok (.func fn first cap) w := fun _ _ _ _ => rfl
  have HL := Aside0.mk hL
  have HB := Aside0.mk hB
  have HC := Aside0.mk hr1
  have HC1 := Aside0.mk hc1
  have HLF := Aside0.mk hl
  have HF := Aside0.mk hF0
  unfold graph_walk.f at h
  clear hL hB hr1 hc1 hl hF0
  by_cases hn : 0 < n
  · rw [if_pos hn] at h
    have H := Aside0.mk h
    clear h
    go_enter Try.func25, Try.ntmps25
    go_wp2_with (go_at_call 36; refine (walk1_calls w0 _ _ _ _ _ _ n A1 c1 l1 fl cap L HL.out HC.out HC1.out k 0 [] [] _ F0 seen out (wst_start w0 n A1 c1 l1 fl cap L HL.out w F0 HB.out HLF.out HF.out) (by simp) H.out).mono ?_; rintro e w3 ⟨rfl, hpost⟩; have hp3 := Aside0.mk hpost; clear hpost; have hcs := (show ∃ F', _ from hp3.out).choose_spec.1.env.cs)
    go_ret
    obtain ⟨F', h1, h2, h3⟩ := hp3.out
    exact ⟨_, F', rfl, h1.map, by omega, h1.left, h1.env.hb, (Kept.of_below (below_alloc (below_alloc (below_alloc (below_alloc (below_alloc (below_alloc (Below.refl w.heap.size w) _) _) _) _) _) _) F0).then_ h2 (fun b hb => hb.elim (fun e => .inr (by omega)) (fun e => .inl e)), fun b hb => (h3 b hb).imp_right (fun e => Nat.le_trans (below_alloc (below_alloc (below_alloc (below_alloc (below_alloc (below_alloc (Below.refl w.heap.size w) _) _) _) _) _) _).size e), fun e => (h1.env.hF _ e).2.1 rfl⟩
  · rw [if_neg hn] at h
    have H := Aside0.mk h
    clear h
    go_enter Try.func25, Try.ntmps25
    go_wp2
    go_ret
    have h2 := H.out
    simp only [Option.some.injEq, Prod.mk.injEq] at h2
    obtain ⟨rfl, rfl⟩ := h2
    have h1 := wst_start w0 n A1 c1 l1 fl cap L HL.out w F0 HB.out HLF.out HF.out
    exact ⟨_, F0, rfl, h1.map, by omega, h1.left, h1.env.hb, Kept.of_below (below_alloc (below_alloc (below_alloc (below_alloc (below_alloc (below_alloc (Below.refl w.heap.size w) _) _) _) _) _) _) F0, fun b hb => .inl hb, fun e => (h1.env.hF _ e).2.1 rfl⟩
end
end Go.Proofs.Ytafjbebbmfihaaa.P
