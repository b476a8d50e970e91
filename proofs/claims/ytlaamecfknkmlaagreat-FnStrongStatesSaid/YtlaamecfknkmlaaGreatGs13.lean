/- Merged texts: contracts and plain lemmas (Mw, Mx). -/
import Derived.Test.YtlaamecfknkmlaaGreatGs9
import Derived.Test.YtlaamecfknkmlaaGreatGs2
import Derived.Laws.StructEq
import Derived.Maps.Own
import Derived.Maps.RangeRun
import Derived.Maps.Range
namespace Go.Proofs.YtlaamecfknkmlaaGreat
set_option linter.unusedVariables false
open Go.RowKit Go.Kt

def entL : List (Nat × Nat) → Nat → List MapEntry
  | [], _ => []
  | p :: S, i => { key := pairV p, val := .bool true, born := i } :: entL S (i + 1)
def entP (S : List (Nat × Nat)) : Array MapEntry := (entL S 0).toArray
def idxP (p : Nat × Nat) : List (Nat × Nat) → Option Nat
  | [] => none
  | q :: S => if p = q then some 0 else (idxP p S).map (· + 1)
theorem idxP_none (p : Nat × Nat) : ∀ S, idxP p S = none ↔ p ∉ S
  | [] => by simp [idxP]
  | q :: S => by
    have := idxP_none p S
    unfold idxP
    by_cases h : p = q
    · simp [h]
    · simp [h, this]
theorem entL_length : ∀ (S : List (Nat × Nat)) (i : Nat), (entL S i).length = S.length
  | [], _ => rfl
  | p :: S, i => by unfold entL; rw [List.length_cons, entL_length S]; rfl
theorem entL_append : ∀ (S T : List (Nat × Nat)) (i : Nat), entL (S ++ T) i = entL S i ++ entL T (i + S.length)
  | [], T, i => rfl
  | p :: S, T, i => by
    show _ :: entL (S ++ T) (i + 1) = _
    rw [entL_append S T]
    simp [entL, Nat.add_assoc, Nat.add_comm 1]
theorem entP_push (S : List (Nat × Nat)) (p : Nat × Nat) : (entP S).push { key := pairV p, val := .bool true, born := S.length } = entP (S ++ [p]) := by
  unfold entP
  rw [entL_append, List.push_toArray]
  simp [entL]
theorem entL_getElem : ∀ (S : List (Nat × Nat)) (i k : Nat), (entL S i)[k]? = (S[k]?).map fun p => { key := pairV p, val := .bool true, born := i + k }
  | [], _, _ => by simp [entL]
  | p :: S, i, 0 => by simp [entL]
  | p :: S, i, k + 1 => by
    unfold entL
    rw [List.getElem?_cons_succ, List.getElem?_cons_succ, entL_getElem S (i + 1) k]
    simp [Nat.add_assoc, Nat.add_comm 1]
theorem idxP_some {p : Nat × Nat} : ∀ {S : List (Nat × Nat)} {k : Nat}, idxP p S = some k → S[k]? = some p
  | [], k, h => by cases h
  | q :: S, k, h => by
    unfold idxP at h
    split at h
    · rename_i e
      obtain rfl := Option.some.inj h
      simp [e]
    · obtain ⟨j, hj, rfl⟩ := Option.map_eq_some_iff.1 h
      rw [List.getElem?_cons_succ]; exact idxP_some hj
theorem eqPair (W : World) (p q : Nat × Nat) : (Op.equal 71 (pairV p) (pairV q)).run Tryz.prog W = .ok (decide (p = q)) W := by
  have hS : Tryz.prog.underlying 71 = some (.struct (Tryz.prog.fieldsOf 71)) := by kernel_rfl
  have hI : Tryz.prog.underlying 3 = some (.int .i64) := Tryz.underlying3
  unfold Op.equal
  rw [show Op.maxDepth = 9999 + 1 from rfl, run_equalIn_agg W 9999 71 _ _ hS (by kernel_rfl)]
  obtain ⟨p1, p2⟩ := p
  obtain ⟨q1, q2⟩ := q
  by_cases h1 : p1 = q1
  · by_cases h2 : p2 = q2
    · simp [Program.fieldsOf, Tryz.underlying71, Op.eqFields, go_sem, h1, h2]
    · have h2' : ¬ ((p2 : Int) = (q2 : Int)) := by omega
      simp [Program.fieldsOf, Tryz.underlying71, Op.eqFields, go_sem, h1, h2, h2']
  · have h1' : ¬ ((p1 : Int) = (q1 : Int)) := by omega
    simp [Program.fieldsOf, Tryz.underlying71, Op.eqFields, go_sem, h1, h1']
theorem find_run (W : World) (p : Nat × Nat) : ∀ (S : List (Nat × Nat)) (i j : Nat), (Instr.findAsking 71 (pairV p) (entL S i) j).run Tryz.prog W = .ok ((idxP p S).map fun k => (j + k, Value.bool true)) W
  | [], i, j => by simp [entL, Instr.findAsking, idxP]
  | q :: S, i, j => by
    unfold entL Instr.findAsking idxP
    simp only [Sem.run_bind, eqPair, Result.andThen_ok]
    by_cases h : p = q
    · simp [h]
    · simp [h, find_run W p S (i + 1) (j + 1)]
      cases idxP p S <;> simp [Nat.add_assoc, Nat.add_comm 1]
theorem findKey_run (W : World) (p : Nat × Nat) (S : List (Nat × Nat)) : (Instr.findKey 71 (pairV p) (entP S).toList).run Tryz.prog W = .ok ((idxP p S).map fun k => (k, Value.bool true)) W := by
  have hS : Tryz.prog.underlying 71 = some (.struct (Tryz.prog.fieldsOf 71)) := by kernel_rfl
  have hf := find_run W p S 0 0
  simp only [Nat.zero_add] at hf
  unfold Instr.findKey entP
  simp only [Sem.run_bind, run_underlying hS, Result.andThen_ok]
  cases S with
  | nil => simp [entL, Instr.findNow, idxP]
  | cons q S => simpa [entL, Instr.findNow, Instr.sameNow] using hf
theorem checkKey_int (W : World) (em : Bool) (n : Nat) (x : Int) : (Instr.checkKey em (n + 1) 3 (.int .i64 x)).run Tryz.prog W = .ok () W := by
  have hI : Tryz.prog.underlying 3 = some (.int .i64) := Tryz.underlying3
  unfold Instr.checkKey
  simp [run_underlying hI]
theorem checkKey_run (W : World) (em : Bool) (p : Nat × Nat) : (Instr.checkKey em 10000 71 (pairV p)).run Tryz.prog W = .ok () W := by
  have hS : Tryz.prog.underlying 71 = some (.struct (Tryz.prog.fieldsOf 71)) := by kernel_rfl
  have key : ∀ n, (Instr.checkKey em (n + 1 + 1) 71 (pairV p)).run Tryz.prog W = .ok () W := fun n => by
    rw [Instr.checkKey.eq_2]
    simp only [Sem.run_bind, run_underlying hS, Result.andThen_ok]
    simp [Program.fieldsOf, Tryz.underlying71, go_sem, checkKey_int]
  exact key 9998
/-- A map of the pairs that are seen. -/
def SetP (w : World) (b : Nat) (S : List (Nat × Nat)) : Prop := w.heap[b]? = some (.map (entP S) S.length) ∧ S.Nodup
theorem SetP.lt {w : World} {b : Nat} {S : List (Nat × Nat)} (h : SetP w b S) : b < w.heap.size := (Array.getElem?_eq_some_iff.1 h.1).1
theorem SetP.kept {w w' : World} {b : Nat} {S : List (Nat × Nat)} (h : SetP w b S) (hb : w'.heap[b]? = w.heap[b]?) : SetP w' b S := ⟨hb.trans h.1, h.2⟩
theorem SetP.ext {w w' : World} {b : Nat} {S : List (Nat × Nat)} (h : SetP w b S) (e : Ext w w') : SetP w' b S := h.kept (e.block b h.lt)
theorem SetP.grown {w w' : World} {b : Nat} {S : List (Nat × Nat)} {row : Option Nat} (h : SetP w b S) (g : w.grownBy w' row) (hr : row ≠ some b) : SetP w' b S := h.kept (g.block b h.lt (fun e => hr e.symm))
theorem SetP.made (w : World) : SetP (w.alloc (.map #[] 0)) w.heap.size [] := ⟨heap_alloc_new w _, List.nodup_nil⟩
theorem SetP.look {w : World} {b : Nat} {S : List (Nat × Nat)} (h : SetP w b S) (p : Nat × Nat) : (Instr.lookup 68 (.map (some b)) (pairV p) false).run Tryz.prog w = .ok (.bool (decide (p ∈ S))) w := by
  have hM : Tryz.prog.underlying 68 = some (.map 71 4) := Tryz.underlying68
  have hz : (zeroValue 4).run Tryz.prog w = .ok (.bool false) w := by kernel_rfl
  unfold Instr.lookup
  simp only [Sem.run_bind, run_underlying hM, Result.andThen_ok]
  have hg : (getObj b).run Tryz.prog w = .ok (.map (entP S) S.length) w := by simp [getObj, Sem.run, h.1]
  simp only [hg, Result.andThen_ok, Sem.run_bind, Sem.run_pure, checkKey_run, findKey_run]
  cases hi : idxP p S with
  | none =>
    have := (idxP_none p S).1 hi
    simp [this, hz]
  | some k =>
    have : p ∈ S := by
      have := idxP_some hi
      exact List.mem_of_getElem? this
    simp [this]
theorem sameBits_pair (p : Nat × Nat) : Instr.sameBits 10000 (pairV p) (pairV p) = true := by
  have key : ∀ n, Instr.sameBits (n + 1 + 1) (pairV p) (pairV p) = true := fun n => by simp [Instr.sameBits]
  exact key 9998
theorem modify_same {S : List (Nat × Nat)} {p : Nat × Nat} {k : Nat} (h : S[k]? = some p) : (entP S).modify k (fun e => { e with key := pairV p, val := .bool true }) = entP S := by
  apply Array.ext_getElem?
  intro i
  rw [Array.getElem?_modify]
  by_cases hi : k = i
  · subst hi
    unfold entP
    rw [if_pos rfl, List.getElem?_toArray, entL_getElem, h]; rfl
  · rw [if_neg hi]
theorem SetP.put_run {w : World} {b : Nat} {S : List (Nat × Nat)} (h : SetP w b S) (p : Nat × Nat) : ∃ w', (Instr.mapUpdate 68 (.map (some b)) (pairV p) (.bool true)).run Tryz.prog w = .ok () w' ∧ SetP w' b (if p ∈ S then S else S ++ [p]) ∧ w.grownBy w' (some b) ∧ w'.heap.size = w.heap.size := by
  have hM : Tryz.prog.underlying 68 = some (.map 71 4) := Tryz.underlying68
  have hg : (getObj b).run Tryz.prog w = .ok (.map (entP S) S.length) w := by simp [getObj, Sem.run, h.1]
  have hs : ∀ o, (setObj b o).run Tryz.prog w = .ok () (ChangeMaps.setBlock w b o) := fun o => by simp [setObj, Sem.run, h.1, ChangeMaps.setBlock]
  have hb : ∀ o, (ChangeMaps.setBlock w b o).heap[b]? = some o := fun o => by simp [ChangeMaps.setBlock, h.lt]
  have hgr : ∀ o, w.grownBy (ChangeMaps.setBlock w b o) (some b) := fun o => ⟨rfl, rfl, rfl, by simp [ChangeMaps.setBlock], fun k hk hne => by simp [ChangeMaps.setBlock, show b ≠ k from fun e => hne (by rw [e])]⟩
  unfold Instr.mapUpdate
  simp only [Sem.run_bind, run_underlying hM, Result.andThen_ok, hg, checkKey_run, findKey_run]
  cases hi : idxP p S with
  | none =>
    have hn := (idxP_none p S).1 hi
    refine ⟨_, by simp only [Option.map_none]; rw [hs], ?_, hgr _, by simp [ChangeMaps.setBlock]⟩
    rw [if_neg hn]
    refine ⟨?_, ?_⟩
    · rw [hb, entP_push]; simp
    · rw [List.nodup_append]
      exact ⟨h.2, by simp, fun a ha c hc => by simp at hc; subst hc; rintro rfl; exact hn ha⟩
  | some k =>
    have hk := idxP_some hi
    have hm : p ∈ S := List.mem_of_getElem? hk
    have hold : (((entP S)[k]?).map (·.key)).getD (pairV p) = pairV p := by
      unfold entP
      rw [List.getElem?_toArray, entL_getElem, hk]; rfl
    refine ⟨ChangeMaps.setBlock w b (.map (entP S) S.length), ?_, ?_, hgr _, by simp [ChangeMaps.setBlock]⟩
    · simp only [Option.map_some, Sem.run_bind, hold, Instr.keyThatStays, sameBits_pair, if_true, Sem.run_pure, Result.andThen_ok]
      rw [hs, modify_same hk]
    · rw [if_pos hm]
      exact ⟨hb _, h.2⟩
end Go.Proofs.YtlaamecfknkmlaaGreat
namespace Go.Proofs.YtlaamecfknkmlaaGreat
set_option linter.unusedVariables false
open Go.RowKit Go.Kt
theorem eqPlace (W : World) (p q : Nat × Nat) : (Op.equal 131 (pairV p) (pairV q)).run Tryz.prog W = .ok (decide (p = q)) W := by
  have hS : Tryz.prog.underlying 131 = some (.struct (Tryz.prog.fieldsOf 131)) := by kernel_rfl
  have hI : Tryz.prog.underlying 3 = some (.int .i64) := Tryz.underlying3
  unfold Op.equal
  rw [show Op.maxDepth = 9999 + 1 from rfl, run_equalIn_agg W 9999 131 _ _ hS (by kernel_rfl)]
  obtain ⟨p1, p2⟩ := p
  obtain ⟨q1, q2⟩ := q
  by_cases h1 : p1 = q1
  · by_cases h2 : p2 = q2
    · simp [Program.fieldsOf, Tryz.underlying131, Op.eqFields, go_sem, h1, h2]
    · have h2' : ¬ ((p2 : Int) = (q2 : Int)) := by omega
      simp [Program.fieldsOf, Tryz.underlying131, Op.eqFields, go_sem, h1, h2, h2']
  · have h1' : ¬ ((p1 : Int) = (q1 : Int)) := by omega
    simp [Program.fieldsOf, Tryz.underlying131, Op.eqFields, go_sem, h1, h1']
theorem find_run2 (W : World) (p : Nat × Nat) : ∀ (S : List (Nat × Nat)) (i j : Nat), (Instr.findAsking 131 (pairV p) (entL S i) j).run Tryz.prog W = .ok ((idxP p S).map fun k => (j + k, Value.bool true)) W
  | [], i, j => by simp [entL, Instr.findAsking, idxP]
  | q :: S, i, j => by
    unfold entL Instr.findAsking idxP
    simp only [Sem.run_bind, eqPlace, Result.andThen_ok]
    by_cases h : p = q
    · simp [h]
    · simp [h, find_run2 W p S (i + 1) (j + 1)]
      cases idxP p S <;> simp [Nat.add_assoc, Nat.add_comm 1]
theorem findKey_run2 (W : World) (p : Nat × Nat) (S : List (Nat × Nat)) : (Instr.findKey 131 (pairV p) (entP S).toList).run Tryz.prog W = .ok ((idxP p S).map fun k => (k, Value.bool true)) W := by
  have hS : Tryz.prog.underlying 131 = some (.struct (Tryz.prog.fieldsOf 131)) := by kernel_rfl
  have hf := find_run2 W p S 0 0
  simp only [Nat.zero_add] at hf
  unfold Instr.findKey entP
  simp only [Sem.run_bind, run_underlying hS, Result.andThen_ok]
  cases S with
  | nil => simp [entL, Instr.findNow, idxP]
  | cons q S => simpa [entL, Instr.findNow, Instr.sameNow] using hf
theorem checkKey_run2 (W : World) (em : Bool) (p : Nat × Nat) : (Instr.checkKey em 10000 131 (pairV p)).run Tryz.prog W = .ok () W := by
  have hS : Tryz.prog.underlying 131 = some (.struct (Tryz.prog.fieldsOf 131)) := by kernel_rfl
  have key : ∀ n, (Instr.checkKey em (n + 1 + 1) 131 (pairV p)).run Tryz.prog W = .ok () W := fun n => by
    rw [Instr.checkKey.eq_2]
    simp only [Sem.run_bind, run_underlying hS, Result.andThen_ok]
    simp [Program.fieldsOf, Tryz.underlying131, go_sem, checkKey_int]
  exact key 9998
def SetU (w : World) (b : Nat) (S : List (Nat × Nat)) : Prop := w.heap[b]? = some (.map (entP S) S.length) ∧ S.Nodup
theorem SetU.lt {w : World} {b : Nat} {S : List (Nat × Nat)} (h : SetU w b S) : b < w.heap.size := (Array.getElem?_eq_some_iff.1 h.1).1
theorem SetU.kept {w w' : World} {b : Nat} {S : List (Nat × Nat)} (h : SetU w b S) (hb : w'.heap[b]? = w.heap[b]?) : SetU w' b S := ⟨hb.trans h.1, h.2⟩
theorem SetU.ext {w w' : World} {b : Nat} {S : List (Nat × Nat)} (h : SetU w b S) (e : Ext w w') : SetU w' b S := h.kept (e.block b h.lt)
theorem SetU.grown {w w' : World} {b : Nat} {S : List (Nat × Nat)} {row : Option Nat} (h : SetU w b S) (g : w.grownBy w' row) (hr : row ≠ some b) : SetU w' b S := h.kept (g.block b h.lt (fun e => hr e.symm))
theorem SetU.made (w : World) : SetU (w.alloc (.map #[] 0)) w.heap.size [] := ⟨heap_alloc_new w _, List.nodup_nil⟩
theorem SetU.look {w : World} {b : Nat} {S : List (Nat × Nat)} (h : SetU w b S) (p : Nat × Nat) : (Instr.lookup 129 (.map (some b)) (pairV p) false).run Tryz.prog w = .ok (.bool (decide (p ∈ S))) w := by
  have hM : Tryz.prog.underlying 129 = some (.map 131 4) := Tryz.underlying129
  have hz : (zeroValue 4).run Tryz.prog w = .ok (.bool false) w := by kernel_rfl
  unfold Instr.lookup
  simp only [Sem.run_bind, run_underlying hM, Result.andThen_ok]
  have hg : (getObj b).run Tryz.prog w = .ok (.map (entP S) S.length) w := by simp [getObj, Sem.run, h.1]
  simp only [hg, Result.andThen_ok, Sem.run_bind, Sem.run_pure, checkKey_run2, findKey_run2]
  cases hi : idxP p S with
  | none =>
    have := (idxP_none p S).1 hi
    simp [this, hz]
  | some k =>
    have : p ∈ S := by
      have := idxP_some hi
      exact List.mem_of_getElem? this
    simp [this]
theorem SetU.put_run {w : World} {b : Nat} {S : List (Nat × Nat)} (h : SetU w b S) (p : Nat × Nat) : ∃ w', (Instr.mapUpdate 129 (.map (some b)) (pairV p) (.bool true)).run Tryz.prog w = .ok () w' ∧ SetU w' b (if p ∈ S then S else S ++ [p]) ∧ w.grownBy w' (some b) ∧ w'.heap.size = w.heap.size := by
  have hM : Tryz.prog.underlying 129 = some (.map 131 4) := Tryz.underlying129
  have hg : (getObj b).run Tryz.prog w = .ok (.map (entP S) S.length) w := by simp [getObj, Sem.run, h.1]
  have hs : ∀ o, (setObj b o).run Tryz.prog w = .ok () (ChangeMaps.setBlock w b o) := fun o => by simp [setObj, Sem.run, h.1, ChangeMaps.setBlock]
  have hb : ∀ o, (ChangeMaps.setBlock w b o).heap[b]? = some o := fun o => by simp [ChangeMaps.setBlock, h.lt]
  have hgr : ∀ o, w.grownBy (ChangeMaps.setBlock w b o) (some b) := fun o => ⟨rfl, rfl, rfl, by simp [ChangeMaps.setBlock], fun k hk hne => by simp [ChangeMaps.setBlock, show b ≠ k from fun e => hne (by rw [e])]⟩
  unfold Instr.mapUpdate
  simp only [Sem.run_bind, run_underlying hM, Result.andThen_ok, hg, checkKey_run2, findKey_run2]
  cases hi : idxP p S with
  | none =>
    have hn := (idxP_none p S).1 hi
    refine ⟨_, by simp only [Option.map_none]; rw [hs], ?_, hgr _, by simp [ChangeMaps.setBlock]⟩
    rw [if_neg hn]
    refine ⟨?_, ?_⟩
    · rw [hb, entP_push]; simp
    · rw [List.nodup_append]
      exact ⟨h.2, by simp, fun a ha c hc => by simp at hc; subst hc; rintro rfl; exact hn ha⟩
  | some k =>
    have hk := idxP_some hi
    have hm : p ∈ S := List.mem_of_getElem? hk
    have hold : (((entP S)[k]?).map (·.key)).getD (pairV p) = pairV p := by
      unfold entP
      rw [List.getElem?_toArray, entL_getElem, hk]; rfl
    refine ⟨ChangeMaps.setBlock w b (.map (entP S) S.length), ?_, ?_, hgr _, by simp [ChangeMaps.setBlock]⟩
    · simp only [Option.map_some, Sem.run_bind, hold, Instr.keyThatStays, sameBits_pair, if_true, Sem.run_pure, Result.andThen_ok]
      rw [hs, modify_same hk]
    · rw [if_pos hm]
      exact ⟨hb _, h.2⟩
theorem wpList_lookU {ops : Array Oper} {rest : List Oper} {o : Oper} {a : Act} {Q : Exit → Act → World → Prop} {w : World} (hg : o.guard = none) (m x : Operand)
    (hop : o.op = Op.lookup 129 m x false) (b : Nat) (S : List (Nat × Nat)) (p : Nat × Nat) (hm : a.eval m = .map (some b)) (hx : a.eval x = pairV p) (hown : SetU w b S) (bb : Bool) (hbb : decide (p ∈ S) = bb)
    (hK : wpList Tryz.prog ops Q rest (a.put o.dst (.bool bb)) w) : wpList Tryz.prog ops Q (o :: rest) a w := by
  refine wpList_plain hg fun K' hK' => ?_
  have hrun := hown.look p
  rw [hbb] at hrun
  unfold Oper.wp
  simp [execOp, hop, hm, hx, hrun, Result.andThen]
  exact hK' _ _ hK
theorem wpList_putU {ops : Array Oper} {rest : List Oper} {o : Oper} {a : Act} {Q : Exit → Act → World → Prop} {w : World} (hg : o.guard = none) (m x v : Operand)
    (hop : o.op = Op.mapUpdate 129 m x v) (b : Nat) (S : List (Nat × Nat)) (p : Nat × Nat) (hm : a.eval m = .map (some b)) (hx : a.eval x = pairV p) (hv : a.eval v = .bool true) (hown : SetU w b S)
    (hK : ∀ w', SetU w' b (if p ∈ S then S else S ++ [p]) → w.grownBy w' (some b) → w'.heap.size = w.heap.size → wpList Tryz.prog ops Q rest (a.put o.dst undef) w') : wpList Tryz.prog ops Q (o :: rest) a w := by
  refine wpList_plain hg fun K' hK' => ?_
  obtain ⟨w', hrun, r1, r2, r3⟩ := hown.put_run p
  unfold Oper.wp
  simp [execOp, hop, hm, hx, hv, hrun, Result.andThen]
  exact hK' _ _ (hK w' r1 r2 r3)
theorem born_entU {S : List (Nat × Nat)} {e : MapEntry} (h : e ∈ (entP S).toList) : e.born < S.length ∧ e = { key := pairV (atP S e.born), val := .bool true, born := e.born } := by
  unfold entP at h
  obtain ⟨k, hk⟩ := List.mem_iff_getElem?.1 h
  have hl : k < (entL S 0).length := (List.getElem?_eq_some_iff.1 hk).1
  rw [entL_length] at hl
  have hk2 : (entL S 0)[k]? = some e := hk
  rw [entL_getElem, List.getElem?_eq_getElem hl] at hk2
  have := Option.some.inj hk2
  subst this
  refine ⟨by simpa using hl, ?_⟩
  simp [atP_getElem _ _ hl]
theorem ent_memU {S : List (Nat × Nat)} {i : Nat} (h : i < S.length) : ({ key := pairV (atP S i), val := .bool true, born := i } : MapEntry) ∈ (entP S).toList := by
  unfold entP
  rw [List.mem_iff_getElem?]
  refine ⟨i, ?_⟩
  show (entL S 0)[i]? = _
  rw [entL_getElem, List.getElem?_eq_getElem h]
  simp [atP_getElem _ _ h]
theorem entL_nodupU : ∀ (S : List (Nat × Nat)) (i : Nat), ((entL S i).map (·.born)).Nodup ∧ ∀ b, b ∈ (entL S i).map (·.born) → i ≤ b
  | [], i => by simp [entL]
  | p :: S, i => by
    obtain ⟨h1, h2⟩ := entL_nodupU S (i + 1)
    unfold entL
    rw [List.map_cons]
    refine ⟨List.nodup_cons.2 ⟨fun h => ?_, h1⟩, fun b hb => ?_⟩
    · have h3 : i + 1 ≤ i := h2 _ h
      omega
    · rcases List.mem_cons.1 hb with h | h
      · subst h; exact Nat.le_refl _
      · have := h2 b h; omega
theorem left_lessU {es : Array MapEntry} {seen : Array Nat} {e : MapEntry} (h : e ∈ (leftOf es seen).toList) : (leftOf es (seen.push e.born)).size < (leftOf es seen).size := by
  have hs : ∀ sn : Array Nat, (leftOf es sn).size = (es.toList.filter fun x => !sn.contains x.born).length := fun sn => by unfold leftOf; rw [← Array.toList_filter, Array.length_toList]
  rw [hs, hs]
  unfold leftOf at h
  rw [Array.toList_filter, List.mem_filter] at h
  obtain ⟨h1, h2⟩ := h
  have e1 : es.toList.filter (fun x => !(seen.push e.born).contains x.born) = (es.toList.filter fun x => !seen.contains x.born).filter fun x => !(x.born == e.born) := by
    rw [List.filter_filter]
    congr 1
    funext x
    by_cases hx : x.born = e.born
    · simp [hx]
    · simp [Array.mem_push, hx]
  rw [e1]
  exact List.length_filter_lt_length_iff_exists.2 ⟨e, List.mem_filter.2 ⟨h1, h2⟩, by simp⟩
def RngU (w : World) (b r : Nat) (S : List (Nat × Nat)) (C : Nat × Nat → Prop) : Prop :=
  SetU w b S ∧ r ≠ b ∧ ∃ seen : Array Nat, w.heap[r]? = some (.mapIter (some b) S.length seen S.length) ∧ ∀ i, i < S.length → seen.contains i = true → C (atP S i)
theorem RngU.left {w : World} {b r : Nat} {S : List (Nat × Nat)} {seen : Array Nat} (h : SetU w b S) (hr : w.heap[r]? = some (.mapIter (some b) S.length seen S.length)) : w.rangeLeft b r = (leftOf (entP S) seen).size := by
  unfold World.rangeLeft
  rw [h.1, hr]
theorem wpList_rangeU {ops : Array Oper} {rest : List Oper} {o : Oper} {a : Act} {Q : Exit → Act → World → Prop} {w : World} (hg : o.guard = none) (m : Operand)
    (hop : o.op = Op.range 129 m) (b : Nat) (S : List (Nat × Nat)) (C : Nat × Nat → Prop) (hm : a.eval m = .map (some b)) (hown : SetU w b S)
    (hK : ∀ w', RngU w' b w.heap.size S C → Ext w w' → w'.heap.size = w.heap.size + 1 → wpList Tryz.prog ops Q rest (a.put o.dst (.pointer (some ⟨w.heap.size, 0, none⟩))) w') : wpList Tryz.prog ops Q (o :: rest) a w := by
  refine wpList_plain hg fun K' hK' => ?_
  have hM : Tryz.prog.underlying 129 = some (.map 131 4) := Tryz.underlying129
  have hgo : (getObj b).run Tryz.prog w = .ok (.map (entP S) S.length) w := by simp [getObj, Sem.run, hown.1]
  have hrun : (Instr.range 129 (.map (some b))).run Tryz.prog w = .ok (.pointer (some ⟨w.heap.size, 0, none⟩)) (w.alloc (.mapIter (some b) S.length #[] S.length)) := by
    unfold Instr.range
    simp only [Sem.run_bind, run_underlying hM, Result.andThen_ok, hgo, Sem.run_pure]
    rfl
  have hx : Ext w (w.alloc (.mapIter (some b) S.length #[] S.length)) := (Ext.refl _).alloc _
  have hk := hK _ ⟨hown.ext hx, by have := hown.lt; omega, #[], heap_alloc_new w _, fun i _ h => by simp at h⟩ hx (by simp)
  unfold Oper.wp
  simp [execOp, hop, hm, hrun, Result.andThen]
  exact hK' _ _ hk
theorem wpList_nextU {ops : Array Oper} {rest : List Oper} {o : Oper} {a : Act} {Q : Exit → Act → World → Prop} {w : World} (hg : o.guard = none) (it : Operand)
    (hop : o.op = Op.next it false) (b r : Nat) (S : List (Nat × Nat)) (C : Nat × Nat → Prop) (hit : a.eval it = .pointer (some ⟨r, 0, none⟩)) (h : RngU w b r S C)
    (hDone : (∀ p, p ∈ S → C p) → wpList Tryz.prog ops Q rest (a.put o.dst (.tuple #[.bool false])) w)
    (hMore : ∀ p w', p ∈ S → (∀ D : Nat × Nat → Prop, (∀ q, C q → D q) → D p → RngU w' b r S D) → (∀ w0, Ext w0 w → w0.heap.size ≤ r → Ext w0 w') → w'.rangeLeft b r < w.rangeLeft b r → (Instr.entry (.pointer (some ⟨r, 0, none⟩))).run Tryz.prog w' = .ok (.tuple #[pairV p, .bool true]) w' → wpList Tryz.prog ops Q rest (a.put o.dst (.tuple #[.bool true, pairV p, .bool true])) w') : wpList Tryz.prog ops Q (o :: rest) a w := by
  refine wpList_plain hg fun K' hK' => ?_
  obtain ⟨hs, hne, seen, hr, hC⟩ := h
  have hrl : r < w.heap.size := (Array.getElem?_eq_some_iff.1 hr).1
  unfold Oper.wp
  rcases run_next_at (P := Tryz.prog) w o.type r b S.length S.length seen (entP S) S.length hr hs.1 (fun x hx => (born_entU hx).1) (Nat.le_refl _) with ⟨h0, hrun⟩ | ⟨e, he, w1, hw1, hrun⟩
  · have hall : ∀ p, p ∈ S → C p := fun p hp => by
      obtain ⟨i, hi, rfl⟩ := List.mem_iff_getElem.1 hp
      rw [← atP_getElem _ _ hi]
      refine hC i hi ?_
      cases hc : seen.contains i with
      | true => rfl
      | false =>
        have : ({ key := pairV (atP S i), val := .bool true, born := i } : MapEntry) ∈ (leftOf (entP S) seen).toList := by
          unfold leftOf
          rw [Array.toList_filter, List.mem_filter]
          exact ⟨ent_memU hi, by simp only [hc]; rfl⟩
        have h1 : (leftOf (entP S) seen).toList.length = 0 := by rw [Array.length_toList]; exact h0
        rw [List.eq_nil_of_length_eq_zero h1] at this
        cases this
    simp [execOp, hop, hit, hrun, Result.andThen]
    exact hK' _ _ (hDone hall)
  · have hem : e ∈ (entP S).toList := by
      unfold leftOf at he
      rw [Array.toList_filter, List.mem_filter] at he
      exact he.1
    obtain ⟨hb1, hb2⟩ := born_entU hem
    have hX : ∀ w0, Ext w0 w → w0.heap.size ≤ r → Ext w0 (ChangeMaps.setBlock w1 r (.mapIter (some b) S.length (seen.push e.born) S.length)) := fun w0 x hz => by
      have x1 : Ext w0 w1 := by
        rcases hw1 with rfl | rfl
        · exact x
        · exact x.drew
      refine ⟨x1.os, x1.tape, x1.output, by simpa [ChangeMaps.setBlock] using x1.size, fun k hk => ?_⟩
      simp only [ChangeMaps.setBlock, Array.getElem?_setIfInBounds_ne (show r ≠ k by omega)]
      exact x1.block k hk
    have hz1 : w1.heap = w.heap := by rcases hw1 with rfl | rfl <;> rfl
    have hr2 : (ChangeMaps.setBlock w1 r (.mapIter (some b) S.length (seen.push e.born) S.length)).heap[r]? = some (.mapIter (some b) S.length (seen.push e.born) S.length) := by
      simp [ChangeMaps.setBlock, hz1, hrl]
    have hs2 : SetU (ChangeMaps.setBlock w1 r (.mapIter (some b) S.length (seen.push e.born) S.length)) b S := hs.kept (by simp [ChangeMaps.setBlock, hz1, hne])
    have hen := run_entry_at (P := Tryz.prog) _ r b S.length seen (entP S) S.length e hr2 hs2.1 hem (entL_nodupU S 0).1
    rw [hb2] at hen
    have hk := hMore (atP S e.born) _ (by rw [atP_getElem _ _ hb1]; exact List.getElem_mem hb1) (fun D hD hc => ⟨hs2, hne, _, hr2, fun i hi hcn => by
      by_cases h : i = e.born
      · subst h; exact hc
      · refine hD _ (hC i hi ?_)
        simpa [Array.mem_push, h] using hcn⟩) hX (by rw [RngU.left hs2 hr2, RngU.left hs hr]; exact left_lessU he) hen
    rw [hb2] at hrun
    simp [execOp, hop, hit, hrun, Result.andThen]
    exact hK' _ _ hk
theorem RngU.ext {w w' : World} {b r : Nat} {S : List (Nat × Nat)} {C : Nat × Nat → Prop} (h : RngU w b r S C) (x : Ext w w') : RngU w' b r S C ∧ w'.rangeLeft b r = w.rangeLeft b r := by
  obtain ⟨h1, h2, seen, h3, h4⟩ := h
  have hr := (Array.getElem?_eq_some_iff.1 h3).1
  have h3' : w'.heap[r]? = some (.mapIter (some b) S.length seen S.length) := (x.block r hr).trans h3
  exact ⟨⟨h1.ext x, h2, seen, h3', h4⟩, by rw [RngU.left (h1.ext x) h3', RngU.left h1 h3]⟩
end Go.Proofs.YtlaamecfknkmlaaGreat
