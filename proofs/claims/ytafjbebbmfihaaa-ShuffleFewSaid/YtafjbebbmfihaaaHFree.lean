/- (*liner).free does what shuffle_Line.free says; no condition. -/
import Derived.Test.YtafjbebbmfihaaaHLiner
namespace Go.Proofs.Ytafjbebbmfihaaa.P
open Go.RowKit Go.Proofs.YtafjbebbmfihaaaW.PrintWords Go.Proofs.YtafjbebbmfihaaaW.PrintLast Go.Proofs.YtafjbebbmfihaaaW.PrintMore
set_option linter.unusedVariables false
set_option linter.unusedSimpArgs false
set_option linter.unusedSectionVars false

theorem lf_del_lt {left : List (Int × Int)} {a b : Int} (h : lf_get left a = some b) : (lf_del left a).length < left.length := by
  unfold lf_get at h
  obtain ⟨p, hp, _⟩ := Option.map_eq_some_iff.1 h
  have hm := List.mem_of_find?_eq_some hp
  have he : p.1 = a := by simpa using List.find?_some hp
  unfold lf_del
  refine Nat.lt_of_le_of_ne (List.length_filter_le _ _) (fun e => ?_)
  have := List.length_filter_eq_length_iff.1 e p hm
  rw [he] at this
  simp at this
/-- What the moves under way keep. -/
structure Und (B : Nat) (w wr : World) (xb bm : Nat) (left : List (Int × Int)) (order : List Int) (out : List S38) (vo vu0 vu : Value) : Prop where
  ln : Ln B wr xb bm left order out vo vu
  keep : KeepL w wr xb bm vu0
  own : vu.ownBlock = vu0.ownBlock ∨ ∃ b, vu.ownBlock = some b ∧ w.heap.size ≤ b
  len : out.length + left.length < 2000000
section
variable {B : Nat} {w wr w' : World} {xb bm : Nat} {left left' : List (Int × Int)} {order : List Int} {out out' : List S38} {vo vu0 vu : Value}
theorem Und.below (h : Und B w wr xb bm left order out vo vu0 vu) (hb : Below wr.heap.size wr w') : Und B w w' xb bm left order out vo vu0 vu :=
  ⟨h.ln.below hb, h.keep.trans (KeepL.below hb xb bm vu) h.own, h.own, h.len⟩
theorem Und.moved (h : Und B w wr xb bm left order out vo vu0 vu) {e : Ending} (hm : MovePost B wr xb bm left' order out' vo vu e w') (hl : out'.length + left'.length < 2000000) : ∃ vu', Und B w w' xb bm left' order out' vo vu0 vu' := by
  obtain ⟨_, vu', h1, h2, h3⟩ := hm
  refine ⟨vu', h1, h.keep.trans h2 h.own, ?_, hl⟩
  rcases h3 with e | ⟨b, e, hb⟩
  · rw [e]; exact h.own
  · exact .inr ⟨b, e, Nat.le_trans h.keep.size hb⟩
end
def FreePost (B : Nat) (w : World) (xb bm : Nat) (r : List (Int × Int) × List S38) (order : List Int) (vo vu0 : Value) (e : Ending) (w' : World) : Prop := e = .returned (.tuple #[]) ∧ ∃ vu, Und B w w' xb bm r.1 order r.2 vo vu0 vu
set_option maxHeartbeats 8000000 in
set_option maxRecDepth 100000 in
theorem free_calls (B : Nat) (xb bm : Nat) (k : Nat) (left : List (Int × Int)) (order : List Int) (out : List S38) (vo vu0 : Value) (r : List (Int × Int) × List S38) (w : World) (hN : Ln B w xb bm left order out vo vu0) (hl : out.length + left.length < 2000000) (hol : order.length < 1000000)
    (h : shuffle_Line.free k order left out = some r) : Calls Try.prog 29 #[ptr xb] w (FreePost B w xb bm r order vo vu0) := by
  obtain ⟨Ao, co, hv⟩ := Kd.R_slice hN.ord
  subst hv
  have H := Aside0.mk h
  have HU : Aside0 (Und B w w xb bm left order out (.slice Ao order.length co) vu0 vu0) := ⟨⟨hN, KeepL.refl _ _ _ _, .inl rfl, hl⟩⟩
  have HOL := Aside0.mk hol
  clear h hN hl hol
  go_enter Try.func29, Try.ntmps29
  go_wp2
  go_loopg [2] k (fun kq v2 wr => ∃ (ag : Bool) (left : List (Int × Int)) (out : List S38) (vu : Value), v2 = .bool ag ∧ Aside0 (if ag = true then shuffle_Line.free kq order left out = some r else (left, out) = r) ∧ Aside0 (Und B w wr xb bm left order out (.slice Ao order.length co) vu0 vu))
  case atStart => exact ⟨true, left, out, vu0, rfl, ⟨by rw [if_pos rfl]; exact H.out⟩, HU⟩
  case round =>
    clear H HU
    obtain ⟨ag, left, out, vu, rfl, HG, HU⟩ := hrel
    have hc1 := (cells3 HU.out.ln.blk).2.1
    cases ag with
    | false =>
      have hr := HG.out
      rw [if_neg (by decide)] at hr
      subst hr
      clear HG
      go_wp2
      go_end0
      exact ⟨rfl, vu, HU.out⟩
    | true =>
      have hg := HG.out
      rw [if_pos rfl] at hg
      cases gk with
      | zero => exact absurd hg (by simp [shuffle_Line.free])
      | succ k1 =>
      rw [shuffle_Line.free] at hg
      obtain ⟨⟨l2, o2, ag2⟩, hp⟩ : ∃ q, q = shuffle_Line.pass order left out false := ⟨_, rfl⟩
      rw [← hp] at hg
      have HP := Aside0.mk hp.symm
      have HG2 : Aside0 (if ag2 = true then shuffle_Line.free k1 order l2 o2 = some r else (l2, o2) = r) := ⟨by
        cases ag2 with
        | false => simpa using hg
        | true => simpa using hg⟩
      clear hg HG hp
      go_wp2
      go_loopw [2, 13] (fun v2 v13 wr => ∃ (j : Nat) (agj : Bool) (left : List (Int × Int)) (out : List S38) (vu : Value), v13 = .int .i64 (j : Int) ∧ v2 = .bool agj ∧ Aside0 (j ≤ order.length) ∧ Aside0 (shuffle_Line.pass (order.drop j) left out agj = (l2, o2, ag2)) ∧ Aside0 (Und B w wr xb bm left order out (.slice Ao order.length co) vu0 vu)) (fun _ v13 _ => order.length - (intOf v13).toNat)
      case atStart => exact ⟨0, false, left, out, vu, rfl, rfl, ⟨Nat.zero_le _⟩, HP, HU⟩
      case round =>
        clear HP HU hc1
        obtain ⟨j, agj, left, out, vu, rfl, rfl, HJ, HP, HU⟩ := hrel
        have hj6 : (j : Int) + 1 ≤ 1000001 := by have := HJ.out; have := HOL.out; omega
        by_cases hlt : j < order.length
        · have hjl : (j : Int) < order.length := by omega
          have hj0 : (0 : Int) ≤ (j : Int) := by omega
          obtain ⟨ad, e1, hcb⟩ := Kd.at_int (Kd.R_reads' HU.out.ln.ord).2.2 (j : Int) hj0 hjl
          subst e1
          rw [Int.toNat_natCast] at hcb
          have hp := HP.out
          rw [List.drop_eq_getElem_cons hlt, shuffle_Line.pass] at hp
          have hrd : rd order (j : Int) = order[j] := by simp [rd, List.getD, hlt]
          rw [← hrd] at hp
          obtain ⟨a, ha⟩ : ∃ a, a = rd order (j : Int) := ⟨_, rfl⟩
          rw [← ha] at hcb hp
          have hc0 := (cells3 HU.out.ln.blk).1
          have HLT := Aside0.mk hlt
          clear hrd ha hlt HP
          cases hget : lf_get left a with
          | none =>
            rw [hget] at hp
            have HP2 := Aside0.mk hp
            have HGET := Aside0.mk hget
            clear hp hget
            go_wp2_with (at_lookup; go_must (refine wpList_im_look rfl _ _ 50 3 3 true rfl Try.underlying50 Try.underlying3 (.int .i64 0) zero3 bm (lfv left) rfl HU.out.ln.map a rfl ?_; simp only [if_true, imGet_lfv, HGET.out, Option.map_none, Option.getD_none, Option.isSome_none]))
            go_roundw
            case measure => have := HLT.out; simp [intOf]; omega
            case rel => exact ⟨j + 1, agj, left, out, vu, by go_num, rfl, ⟨by have := HLT.out; omega⟩, HP2, HU⟩
          | some b =>
            rw [hget] at hp
            have HGET := Aside0.mk hget
            clear hget
            by_cases hread : lf_read left a = true
            · have hp2 : shuffle_Line.pass (order.drop (j + 1)) left out agj = (l2, o2, ag2) := by simpa [hread] using hp
              have HP2 := Aside0.mk hp2
              clear hp hp2
              go_wp2_with (first
                | (at_lookup; go_must (refine wpList_im_look rfl _ _ 50 3 3 true rfl Try.underlying50 Try.underlying3 (.int .i64 0) zero3 bm (lfv left) rfl HU.out.ln.map a rfl ?_; simp only [if_true, imGet_lfv, HGET.out, Option.map_some, Option.getD_some, Option.isSome_some]))
                | (go_at_call 37; go_must (refine (read_calls xb bm left a _ (cells3 HU.out.ln.blk).1 HU.out.ln.map).mono ?_; rintro e w1 ⟨rfl, hb1⟩; have HU1 := Aside0.mk (HU.out.below hb1); clear hb1; rw [hread])))
              go_roundw
              case measure => have := HLT.out; simp [intOf]; omega
              case rel => exact ⟨j + 1, agj, left, out, vu, by go_num, rfl, ⟨by have := HLT.out; omega⟩, HP2, HU1⟩
            · have hread2 : lf_read left a = false := by simpa using hread
              have hp2 : shuffle_Line.pass (order.drop (j + 1)) (lf_del left a) (out ++ [⟨a, b⟩]) true = (l2, o2, ag2) := by simpa [hread2] using hp
              have HP2 := Aside0.mk hp2
              have HLN : Aside0 ((out ++ [(⟨a, b⟩ : S38)]).length + (lf_del left a).length < 2000000) := ⟨by have := HU.out.len; have := lf_del_lt HGET.out; simp; omega⟩
              clear hp hp2 hread
              go_wp2_with (first
                | (at_lookup; go_must (refine wpList_im_look rfl _ _ 50 3 3 true rfl Try.underlying50 Try.underlying3 (.int .i64 0) zero3 bm (lfv left) rfl HU.out.ln.map a rfl ?_; simp only [if_true, imGet_lfv, HGET.out, Option.map_some, Option.getD_some, Option.isSome_some]))
                | (go_at_call 37; go_must (refine (read_calls xb bm left a _ (cells3 HU.out.ln.blk).1 HU.out.ln.map).mono ?_; rintro e w1 ⟨rfl, hb1⟩; have HU1 := Aside0.mk (HU.out.below hb1); clear hb1; rw [hread2]))
                | (go_at_call 38; go_must (refine (move_calls B xb bm left order out _ vu a b _ HU1.out.ln HGET.out (by have := HU1.out.len; omega)).mono ?_; intro e w2 hm; have he := hm.1; subst he; obtain ⟨vu2, hu2⟩ := HU1.out.moved hm HLN.out; have HU2 := Aside0.mk hu2; clear hm hu2)))
              go_roundw
              case measure => have := HLT.out; simp [intOf]; omega
              case rel => exact ⟨j + 1, true, _, _, vu2, by go_num, rfl, ⟨by have := HLT.out; omega⟩, HP2, HU2⟩
        · have hjl : ¬ (j : Int) < order.length := by omega
          have hd : order.drop j = [] := List.drop_eq_nil_of_le (by omega)
          have hp := HP.out
          rw [hd, shuffle_Line.pass, Prod.mk.injEq, Prod.mk.injEq] at hp
          obtain ⟨rfl, rfl, rfl⟩ := hp
          clear hd HP hlt
          go_wp2
          go_roundg k1
          case measure => omega
          case rel => exact ⟨_, _, _, vu, rfl, HG2, HU⟩
end Go.Proofs.Ytafjbebbmfihaaa.P
