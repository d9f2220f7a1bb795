/- Maps with keys of type string that the call itself has made, entry by entry: look-up, store, delete, range; no condition. -/
import Derived.MapKept
import Derived.Maps.RangeRun
import Derived.Maps.OwnOps
import Derived.Maps.OwnSet
import Derived.Maps.RangeWalk
import Derived.WalkKit
namespace Go.Proofs.YtafjbebbmfihaaaDoor
open Go.RowKit Go.MapKept
open Go.ChangeMaps (setBlock)
set_option linter.unusedVariables false
set_option linter.unusedSimpArgs false
set_option linter.unusedSectionVars false

instance : LawfulBEq ByteArray where
  eq_of_beq {a b} h := by
    cases a with | mk a =>
    cases b with | mk b =>
    have h : (a == b) = true := h
    rw [eq_of_beq h]
  rfl {a} := by
    cases a with | mk a =>
    show (a == a) = true
    exact beq_self_eq_true a
/-- Block b is a map whose entries are l, in this order. -/
def TMap (w : World) (b : Nat) (l : List (ByteArray × Value)) : Prop :=
  ∃ es clock, w.heap[b]? = some (.map es clock) ∧ (es.toList.map fun e => (e.key, e.val)) = l.map (fun p => (Value.string p.1, p.2)) ∧ Stamped es clock
def tmGet (l : List (ByteArray × Value)) (a : ByteArray) : Option Value := (l.find? fun p => p.1 == a).map (·.2)
def tmPut (l : List (ByteArray × Value)) (a : ByteArray) (u : Value) : List (ByteArray × Value) := if l.any (fun p => p.1 == a) then l.map (fun p => if p.1 = a then (a, u) else p) else l ++ [(a, u)]
def tmDel (l : List (ByteArray × Value)) (a : ByteArray) : List (ByteArray × Value) := l.filter fun p => p.1 != a

theorem TMap.made (w : World) : TMap (w.alloc (.map #[] 0)) w.heap.size [] := ⟨#[], 0, (heap_alloc w _).1, rfl, stamped_empty 0⟩
theorem TMap.lt {w : World} {b : Nat} {l : List (ByteArray × Value)} (h : TMap w b l) : b < w.heap.size := by
  obtain ⟨es, clock, hb, _⟩ := h
  exact (Array.getElem?_eq_some_iff.1 hb).1
theorem TMap.move {w w' : World} {b : Nat} {l : List (ByteArray × Value)} (h : TMap w b l) (hb : w'.heap[b]? = w.heap[b]?) : TMap w' b l := by
  obtain ⟨es, clock, h1, h2⟩ := h
  exact ⟨es, clock, hb.trans h1, h2⟩
theorem TMap.alloc {w : World} {b : Nat} {l : List (ByteArray × Value)} (h : TMap w b l) (o : Obj) : TMap (w.alloc o) b l := h.move ((heap_alloc w o).2 _ h.lt)
theorem TMap.drew {w : World} {b : Nat} {l : List (ByteArray × Value)} (h : TMap w b l) : TMap w.drew b l := h
theorem TMap.grown {w w' : World} {b : Nat} {l : List (ByteArray × Value)} {row : Option Nat} (h : TMap w b l) (hg : w.grownBy w' row) (hne : some b ≠ row) : TMap w' b l := h.move (hg.block b h.lt hne)
theorem TMap.setCell {w : World} {b : Nat} {l : List (ByteArray × Value)} (h : TMap w b l) (p : Addr) (u : Value) (hne : b ≠ p.block) : TMap (w.setCell p u) b l := h.move (Below.heap_setCell w p u b hne)
theorem TMap.not_cells {w : World} {b : Nat} {l : List (ByteArray × Value)} (h : TMap w b l) {c : Array Value} {t : TypeId} {f : Nat × Nat} (hc : w.heap[b]? = some (.cells c t f)) : False := by
  obtain ⟨es, clock, hb, _⟩ := h
  rw [hb] at hc
  cases hc

theorem tm_keys {es : Array MapEntry} {l : List (ByteArray × Value)} (h : (es.toList.map fun e => (e.key, e.val)) = l.map (fun p => (Value.string p.1, p.2))) : (∀ x ∈ es.toList, IsKey .string x.key) ∧ ∀ j : Nat, (es[j]?).map (fun e => (e.key, e.val)) = (l[j]?).map (fun p => (Value.string p.1, p.2)) := by
  refine ⟨fun x hx => ?_, fun j => ?_⟩
  · have : (x.key, x.val) ∈ es.toList.map fun e => (e.key, e.val) := List.mem_map.2 ⟨x, hx, rfl⟩
    rw [h] at this
    obtain ⟨p, _, e⟩ := List.mem_map.1 this
    injection e with e _
    rw [← e]
    exact trivial
  · have := congrArg (fun q => q[j]?) h
    simpa using this
theorem tmGet_none {l : List (ByteArray × Value)} {a : ByteArray} : tmGet l a = none ↔ ∀ p ∈ l, p.1 ≠ a := by
  simp [tmGet, List.find?_eq_none]
theorem tm_findNow (es : List MapEntry) (l : List (ByteArray × Value)) (a : ByteArray) (i : Nat) (h : (es.map fun e => (e.key, e.val)) = l.map (fun p => (Value.string p.1, p.2))) :
    Instr.findNow .string (.string a) es i = some ((l.findIdx? fun p => p.1 == a).bind fun j => (l[j]?).map fun p => (i + j, p.2)) := by
  induction es generalizing l i with
  | nil => cases l with
    | nil => rfl
    | cons p l => cases h
  | cons e es ih =>
    cases l with
    | nil => cases h
    | cons p l =>
      simp only [List.map_cons, List.cons.injEq] at h
      obtain ⟨h1, h2⟩ := h
      injection h1 with hk hv
      unfold Instr.findNow
      rw [hk]
      simp only [Instr.sameNow, if_true]
      by_cases c : a = p.1
      · subst c
        simp [hv, List.findIdx?_cons]
      · have c' : (a == p.1) = false := by simpa using c
        have c2 : (p.1 == a) = false := by simpa using Ne.symm c
        rw [c', ih l (i + 1) h2, List.findIdx?_cons, c2]
        simp only [Bool.false_eq_true, if_false]
        cases l.findIdx? fun p => p.1 == a with
        | none => rfl
        | some j => simp [Nat.add_assoc, Nat.add_comm 1 j]
theorem tm_find (l : List (ByteArray × Value)) (a : ByteArray) : ((l.findIdx? fun p => p.1 == a).bind fun j => (l[j]?).map (·.2)) = tmGet l a := by
  induction l with
  | nil => rfl
  | cons p l ih =>
    rw [List.findIdx?_cons]
    unfold tmGet at ih ⊢
    rw [List.find?_cons]
    cases p.1 == a with
    | true => rfl
    | false =>
      simp only [Bool.false_eq_true, if_false]
      rw [← ih]
      cases l.findIdx? fun p => p.1 == a with
      | none => rfl
      | some j => simp

theorem tm_eraseIdx_map {α β : Type} (f : α → β) : ∀ (l : List α) (j : Nat), (l.eraseIdx j).map f = (l.map f).eraseIdx j
  | [], _ => rfl
  | _ :: _, 0 => rfl
  | x :: l, j + 1 => by simp [List.eraseIdx_cons_succ, tm_eraseIdx_map f l j]
section
variable {P : Program} {w : World} {b : Nat} {l : List (ByteArray × Value)} {t kt et : TypeId}
theorem TMap.look (h : TMap w b l) (ht : P.underlying t = some (.map kt et)) (hk : P.underlying kt = some .string) {z : Value} (hz : (zeroValue et).run P w = .ok z w) (a : ByteArray) (ok : Bool) :
    (Instr.lookup t (.map (some b)) (.string a) ok).run P w = .ok (if ok then .tuple #[(tmGet l a).getD z, .bool (tmGet l a).isSome] else (tmGet l a).getD z) w := by
  obtain ⟨es, clock, hb, hl, _⟩ := h
  have hf := tm_findNow es.toList l a 0 hl
  have hg := tm_find l a
  have hc := run_checkKey (P := P) (w := w) (k := .string a) hk trivial es.isEmpty 9999
  rw [← hg]
  cases hi : l.findIdx? fun p => p.1 == a with
  | none =>
    rw [hi] at hf
    simp [Instr.lookup, run_underlying ht, Go.MapKept.run_getObj_map hb, hc, run_findKey hk hf, Result.andThen, hz]
  | some j =>
    rw [hi] at hf
    obtain ⟨hj, _⟩ := List.findIdx?_eq_some_iff_getElem.1 hi
    simp only [Option.bind_some, List.getElem?_eq_getElem hj, Option.map_some, Nat.zero_add] at hf ⊢
    simp [Instr.lookup, run_underlying ht, Go.MapKept.run_getObj_map hb, hc, run_findKey hk hf, Result.andThen]
theorem grown_setBlock {es : Array MapEntry} {clock : Nat} (_hb : w.heap[b]? = some (.map es clock)) (o : Obj) : w.grownBy (setBlock w b o) (some b) :=
  ⟨rfl, rfl, rfl, by simp [setBlock], fun k _ hne => by
    have : k ≠ b := fun e => hne (by rw [e])
    simp [setBlock, Ne.symm this]⟩
theorem TMap.put (h : TMap w b l) (ht : P.underlying t = some (.map kt et)) (hk : P.underlying kt = some .string) (a : ByteArray) (u : Value) :
    ∃ w1, (Instr.mapUpdate t (.map (some b)) (.string a) u).run P w = .ok () w1 ∧ TMap w1 b (tmPut l a u) ∧ w.grownBy w1 (some b) := by
  obtain ⟨es, clock, hb, hl, hs⟩ := h
  obtain ⟨hks, hat⟩ := tm_keys hl
  have hf := tm_findNow es.toList l a 0 hl
  have hkey : IsKey .string (.string a) := trivial
  have hc := run_checkKey (P := P) (w := w) (k := .string a) hk hkey false 9999
  cases hi : l.findIdx? fun p => p.1 == a with
  | none =>
    rw [hi] at hf
    have hno : ∀ p ∈ l, p.1 ≠ a := fun p hp => by simpa using List.findIdx?_eq_none_iff.1 hi p hp
    refine ⟨setBlock w b (.map (es.push { key := .string a, val := u, born := clock }) (clock + 1)), ?_, ⟨_, _, (heap_set hb).1, ?_, stamped_push hs ?_⟩, grown_setBlock hb _⟩
    · simp [Instr.mapUpdate, run_underlying ht, Go.MapKept.run_getObj_map hb, hc, run_findKey hk hf, Go.MapKept.run_setObj_map _ hb, Result.andThen, setBlock]
    · have : l.any (fun p => p.1 == a) = false := by rw [List.any_eq_false]; intro p hp; simpa using hno p hp
      simp [tmPut, this, hl]
    · intro x hx e
      have : (x.key, x.val) ∈ es.toList.map fun e => (e.key, e.val) := List.mem_map.2 ⟨x, hx, rfl⟩
      rw [hl] at this
      obtain ⟨p, hp, q⟩ := List.mem_map.1 this
      injection q with q _
      rw [e] at q
      injection q with q
      exact hno p hp q
  | some j =>
    rw [hi] at hf
    obtain ⟨hj, hpj, hmin⟩ := List.findIdx?_eq_some_iff_getElem.1 hi
    have hpj' : (l[j]).1 = a := by simpa using hpj
    have hej : ∃ e, es[j]? = some e ∧ e.key = .string a := by
      have := hat j
      rw [List.getElem?_eq_getElem hj] at this
      cases he : es[j]? with
      | none => rw [he] at this; cases this
      | some e =>
        rw [he] at this
        simp only [Option.map_some, Option.some.injEq, Prod.mk.injEq] at this
        exact ⟨e, rfl, by rw [this.1, hpj']⟩
    obtain ⟨e, he, hek⟩ := hej
    simp only [Option.bind_some, List.getElem?_eq_getElem hj, Option.map_some, Nat.zero_add] at hf
    have hnd : (l.map (·.1)).Nodup := by
      have h3 := hs.2.2
      have e1 : es.toList.map (·.key) = (l.map (·.1)).map (Value.string) := by
        have := congrArg (List.map Prod.fst) hl
        simpa [List.map_map, Function.comp_def] using this
      rw [e1] at h3
      exact List.Pairwise.imp (fun hne e => hne (by rw [e])) (List.pairwise_map.1 h3)
    refine ⟨setBlock w b (.map (es.modify j fun e => { e with key := .string a, val := u }) clock), ?_, ⟨_, _, (heap_set hb).1, ?_, stamped_modify hs j _ (fun _ _ => rfl) (fun e' _ he' => ?_)⟩, grown_setBlock hb _⟩
    · simp [Instr.mapUpdate, run_underlying ht, Go.MapKept.run_getObj_map hb, hc, run_findKey hk hf, he, hek, run_keyThatStays hkey, Go.MapKept.run_setObj_map _ hb, Result.andThen, setBlock]
    · have : l.any (fun p => p.1 == a) = true := List.any_eq_true.2 ⟨l[j], List.getElem_mem hj, hpj⟩
      simp only [tmPut, this, if_true]
      apply List.ext_getElem?
      intro i
      simp only [List.getElem?_map, Array.getElem?_toList, Array.getElem?_modify]
      have hi' := hat i
      by_cases c : j = i
      · subst c
        rw [he, List.getElem?_eq_getElem hj]
        simp [hpj']
      · rw [if_neg c]
        rw [hi']
        cases hli : l[i]? with
        | none => rfl
        | some p =>
          simp only [Option.map_some]
          have hpa : p.1 ≠ a := by
            intro hpa
            obtain ⟨hil, hp⟩ := List.getElem?_eq_some_iff.1 hli
            have h1 : (l.map (·.1))[i]'(by simpa using hil) = (l.map (·.1))[j]'(by simpa using hj) := by
              simp only [List.getElem_map]
              rw [hp, hpa, hpj']
            exact c ((List.getElem_inj (h₀ := by simpa using hil) (h₁ := by simpa using hj) hnd).1 h1).symm
          rw [if_neg hpa]
    · rw [he] at he'
      injection he' with he'
      rw [← he', hek]
end
section
variable {P : Program} {w : World} {ops : Array Oper} {rest : List Oper} {o : Oper} {a : Act} {Q : Exit → Act → World → Prop}
/-- 'm[k]' at the operation. -/
theorem wpList_tm_look (hg : o.guard = none) (m x : Operand) (t kt et : TypeId) (ok : Bool) (hop : o.op = Op.lookup t m x ok) (ht : P.underlying t = some (.map kt et)) (hk : P.underlying kt = some .string) (z : Value)
    (hz : ∀ w : World, (zeroValue et).run P w = .ok z w) (b : Nat) (l : List (ByteArray × Value)) (hm : a.eval m = .map (some b)) (h : TMap w b l) (k : ByteArray) (hx : a.eval x = .string k)
    (hK : wpList P ops Q rest (a.put o.dst (if ok then .tuple #[(tmGet l k).getD z, .bool (tmGet l k).isSome] else (tmGet l k).getD z)) w) : wpList P ops Q (o :: rest) a w := by
  refine wpList_plain hg fun K' hK' => ?_
  have hrun := h.look ht hk (hz w) k ok
  unfold Oper.wp
  simp only [execOp, hop, hm, hx, hrun, Sem.run_bind, Result.andThen, Sem.run_pure]
  exact hK' _ _ hK
/-- 'm[k] = u' at the operation. -/
theorem wpList_tm_put (hg : o.guard = none) (m x u : Operand) (t kt et : TypeId) (hop : o.op = Op.mapUpdate t m x u) (ht : P.underlying t = some (.map kt et)) (hk : P.underlying kt = some .string)
    (b : Nat) (l : List (ByteArray × Value)) (hm : a.eval m = .map (some b)) (h : TMap w b l) (k : ByteArray) (hx : a.eval x = .string k) (v : Value) (hu : a.eval u = v)
    (hK : ∀ w1, TMap w1 b (tmPut l k v) → w.grownBy w1 (some b) → wpList P ops Q rest (a.put o.dst undef) w1) : wpList P ops Q (o :: rest) a w := by
  refine wpList_plain hg fun K' hK' => ?_
  obtain ⟨w1, hrun, h1, h2⟩ := h.put ht hk k v
  unfold Oper.wp
  simp only [execOp, hop, hm, hx, hu, hrun, Sem.run_bind, Result.andThen, Sem.run_pure]
  exact hK' _ _ (hK w1 h1 h2)
end
/-- A set of texts, as a map to bools. -/
def tset (l : List ByteArray) : List (ByteArray × Value) := l.map fun x => (x, Value.bool true)
theorem tmGet_tset (l : List ByteArray) (a : ByteArray) : (tmGet (tset l) a).getD (.bool false) = .bool (decide (a ∈ l)) := by
  induction l with
  | nil => rfl
  | cons x l ih =>
    unfold tmGet tset at ih ⊢
    simp only [List.map_cons, List.find?_cons]
    by_cases c : x = a
    · subst c
      simp
    · have : (x == a) = false := by simpa using c
      rw [this]
      simp only [ih]
      simp [Ne.symm c]
theorem tmPut_tset (l : List ByteArray) (a : ByteArray) (h : a ∉ l) : tmPut (tset l) a (.bool true) = tset (l ++ [a]) := by
  have : (tset l).any (fun p => p.1 == a) = false := by
    rw [List.any_eq_false]
    intro p hp
    obtain ⟨x, hx, rfl⟩ := List.mem_map.1 hp
    have : x ≠ a := fun e => h (e ▸ hx)
    simpa using this
  unfold tmPut
  rw [if_neg (by rw [this]; simp)]
  simp [tset]
end Go.Proofs.YtafjbebbmfihaaaDoor
