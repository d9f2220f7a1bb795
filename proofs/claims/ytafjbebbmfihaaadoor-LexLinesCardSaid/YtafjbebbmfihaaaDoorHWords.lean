/- lex.words makes a map that holds the words of the language; the library's table of blanks is as it was laid. -/
import Derived.Test.YtafjbebbmfihaaaDoorTMaps
import Derived.Test.YtafjbebbmfihaaaDoorShelf
import Derived.Test.YtafjbebbmfihaaaDoorPx0
import Derived.Deep.DeepMust
import Derived.Lib.LaidTab
import Derived.Lib.AppendIntMem
namespace Go.Proofs.YtafjbebbmfihaaaDoor.P
open Go.RowKit Go.Proofs.YtafjbebbmfihaaaDoorW.PrintWords Go.Proofs.YtafjbebbmfihaaaDoorW.PrintLast Go.Proofs.YtafjbebbmfihaaaDoorW.PrintMore
set_option linter.unusedVariables false
set_option linter.unusedSimpArgs false
set_option linter.unusedSectionVars false
/-- The text that the words stand in. -/
def kwText : ByteArray := ⟨([102, 110, 32, 115, 116, 114, 117, 99, 116, 32, 101, 110, 117, 109, 32, 99, 111, 110, 115, 116, 32, 108, 101, 116, 32, 109, 117, 116, 32, 105, 102, 32, 101, 108, 115, 101, 32, 109, 97, 116, 99, 104, 32, 119].append [104, 105, 108, 101, 32, 108, 111, 111, 112, 32, 98, 114, 101, 97, 107, 32, 99, 111, 110, 116, 105, 110, 117, 101, 32, 114, 101, 116, 117, 114, 110, 32, 116, 114, 117, 101, 32, 102, 97, 108, 115, 101, 32, 97, 115]).toArray⟩
def kwList : List ByteArray := (Lib.fields kwText.data.toList).map fun l => ⟨l.toArray⟩
theorem kwList_length : kwList.length = 17 := by decide +kernel
theorem kw_ascii : ∀ (j : Nat) (b : UInt8), kwText.data.toList[j]? = some b → b.toNat < 128 := by
  have h : ∀ b ∈ kwText.data.toList, b.toNat < 128 := by decide +kernel
  exact fun j b hj => h b (List.mem_of_getElem? hj)
theorem kw_nodup : kwList.Nodup := by decide +kernel
theorem kw_cell {w : World} {b : Nat} (h : w.heap[b]? = some (.cells (kwList.map Value.string).toArray 9 (0, 0))) (j : Nat) (hj : j < kwList.length) : w.cell? ⟨b, j, none⟩ = some (.string kwList[j]) := by
  unfold World.cell?
  dsimp only
  rw [h]
  simp [hj]
set_option maxHeartbeats 2000000 in
set_option maxRecDepth 100000 in
theorem words_calls (w : World) (hG : Lib.TabBelow Tryd.prog w.heap.size w "strings.asciiSpace" .u8 Lib.asciiSpaceTab) :
    Calls Tryd.prog 16 #[] w fun e w' => ∃ b, e = .returned (.map (some b)) ∧ TMap w' b (tset kwList) ∧ w.heap.size ≤ b ∧ Below w.heap.size w w' := by
  have HG := Aside0.mk hG
  have hmm := @run_makeMap Tryd.prog
  clear hG
  go_enter Tryd.func16, Tryd.ntmps16
  go_wp2_with (go_at_call 25; go_must (refine (Tryd.strings_Fields kwText _ (by decide +kernel) kw_ascii (HG.out _ (below_alloc (Below.refl _ _) _))).mono ?_; rintro e w' ⟨rfl, rfl⟩))
  have hkl : (Lib.fields kwText.data.toList).length = kwList.length := by simp [kwList]
  have hcs : ((Lib.fields kwText.data.toList).map fun l => Value.string ⟨l.toArray⟩) = kwList.map Value.string := by simp [kwList, List.map_map]
  have HM : Aside0 (TMap ((w.alloc (.map #[] 0)).alloc (.cells (kwList.map Value.string).toArray 9)) w.heap.size (tset (kwList.take 0))) := ⟨(TMap.made w).alloc _⟩
  have HC : Aside0 (((w.alloc (.map #[] 0)).alloc (.cells (kwList.map Value.string).toArray 9)).heap[w.heap.size + 1]? = some (.cells (kwList.map Value.string).toArray 9 (0, 0))) := ⟨by have := heap_alloc_new (w.alloc (.map #[] 0)) (.cells (kwList.map Value.string).toArray 9); simpa using this⟩
  have HB : Aside0 (Below w.heap.size w ((w.alloc (.map #[] 0)).alloc (.cells (kwList.map Value.string).toArray 9))) := ⟨below_alloc (below_alloc (Below.refl _ _) _) _⟩
  have HL := Aside0.mk kwList_length
  rw [hkl, hcs]
  clear hkl hcs
  go_loopw [7] (fun v7 wr => ∃ j : Nat, v7 = .int .i64 (j : Int) ∧ Aside0 (j ≤ kwList.length) ∧ Aside0 (TMap wr w.heap.size (tset (kwList.take j))) ∧ Aside0 (wr.heap[w.heap.size + 1]? = some (.cells (kwList.map Value.string).toArray 9 (0, 0))) ∧ Aside0 (Below w.heap.size w wr)) (fun v7 _ => kwList.length - (intOf v7).toNat)
  case atStart => exact ⟨0, rfl, ⟨Nat.zero_le _⟩, HM, HC, HB⟩
  case round =>
    clear HM HC HB
    obtain ⟨j, rfl, HJ, HM, HC, HB⟩ := hrel
    have hj6 : (j : Int) + 1 ≤ 1000001 := by have := HJ.out; have := HL.out; omega
    by_cases hlt : j < kwList.length
    · have hjl : (j : Int) < kwList.length := by omega
      have hcell := kw_cell HC.out j hlt
      have hnot : kwList[j] ∉ kwList.take j := by
        intro h
        obtain ⟨i, hi, e⟩ := List.mem_take_iff_getElem.1 h
        have := (List.getElem_inj kw_nodup).1 e
        omega
      have htk : kwList.take (j + 1) = kwList.take j ++ [kwList[j]] := List.take_succ_eq_append_getElem hlt
      generalize kwList[j] = s at hcell hnot htk
      have HLT := Aside0.mk hlt
      have HN := Aside0.mk hnot
      have HT := Aside0.mk htk
      clear hlt hnot htk
      go_wp2_with (at_mapUpdate; go_must (refine wpList_tm_put rfl _ _ _ 44 9 4 rfl Tryd.underlying44 Tryd.underlying9 w.heap.size (tset (kwList.take j)) rfl HM.out s rfl (.bool true) rfl ?_; intro w6 hM6 hg6; rw [tmPut_tset _ s HN.out] at hM6; have HM6 := Aside0.mk hM6; have HG6 := Aside0.mk hg6; clear hM6 hg6))
      go_roundw
      case measure => have := HLT.out; simp [intOf]; omega
      case rel => exact ⟨j + 1, by go_num, ⟨by have := HLT.out; omega⟩, ⟨by rw [HT.out]; exact HM6.out⟩, ⟨(HG6.out.block _ (Array.getElem?_eq_some_iff.1 HC.out).1 (fun e => by injection e with e; omega)).trans HC.out⟩, ⟨HB.out.grown HG6.out HB.out.size (fun k e => by cases e; exact Nat.le_refl _)⟩⟩
    · have hjl : ¬ (j : Int) < kwList.length := by omega
      have e : kwList.take j = kwList := List.take_of_length_le (by omega)
      have hm := HM.out
      rw [e] at hm
      have HM2 := Aside0.mk hm
      clear e hm HM hlt
      go_wp2
      go_ret
      exact ⟨_, rfl, HM2.out, Nat.le_refl _, HB.out⟩
end Go.Proofs.YtafjbebbmfihaaaDoor.P
