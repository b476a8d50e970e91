/- Merged texts: contracts and plain lemmas (Mw). -/
import Derived.Test.YtlaamecfknkmlaaGreatGrAu
import Derived.Test.YtlaamecfknkmlaaGreatGr2
import Derived.Laws.StructEq
import Derived.Maps.Own
import Derived.Maps.RangeRun
/- Contracts: maps of pairs: what a call has seen. -/
namespace Go.Proofs.YtlaamecfknkmlaaGreat
set_option linter.unusedVariables false
open Go.RowKit Go.Kt

def entL : List (Nat × Nat) → Nat → List MapEntry
  | [], _ => []
  | p :: S, i => { key := pairV p, val := .bool true, born := i } :: entL S (i + 1)
def entP (S : List (Nat × Nat)) : Array MapEntry := (entL S 0).toArray
def idxP (p : Nat × Nat) : List (Nat × Nat) → Option Nat
  | [] => none
  | q :: S => if p = q then some 0 else (idxP p S).map (· + 1)
theorem idxP_none (p : Nat × Nat) : ∀ S, idxP p S = none ↔ p ∉ S
  | [] => by simp [idxP]
  | q :: S => by
    have := idxP_none p S
    unfold idxP
    by_cases h : p = q
    · simp [h]
    · simp [h, this]
theorem entL_length : ∀ (S : List (Nat × Nat)) (i : Nat), (entL S i).length = S.length
  | [], _ => rfl
  | p :: S, i => by unfold entL; rw [List.length_cons, entL_length S]; rfl
theorem entL_append : ∀ (S T : List (Nat × Nat)) (i : Nat), entL (S ++ T) i = entL S i ++ entL T (i + S.length)
  | [], T, i => rfl
  | p :: S, T, i => by
    show _ :: entL (S ++ T) (i + 1) = _
    rw [entL_append S T]
    simp [entL, Nat.add_assoc, Nat.add_comm 1]
theorem entP_push (S : List (Nat × Nat)) (p : Nat × Nat) : (entP S).push { key := pairV p, val := .bool true, born := S.length } = entP (S ++ [p]) := by
  unfold entP
  rw [entL_append, List.push_toArray]
  simp [entL]
theorem entL_getElem : ∀ (S : List (Nat × Nat)) (i k : Nat), (entL S i)[k]? = (S[k]?).map fun p => { key := pairV p, val := .bool true, born := i + k }
  | [], _, _ => by simp [entL]
  | p :: S, i, 0 => by simp [entL]
  | p :: S, i, k + 1 => by
    unfold entL
    rw [List.getElem?_cons_succ, List.getElem?_cons_succ, entL_getElem S (i + 1) k]
    simp [Nat.add_assoc, Nat.add_comm 1]
theorem idxP_some {p : Nat × Nat} : ∀ {S : List (Nat × Nat)} {k : Nat}, idxP p S = some k → S[k]? = some p
  | [], k, h => by cases h
  | q :: S, k, h => by
    unfold idxP at h
    split at h
    · rename_i e
      obtain rfl := Option.some.inj h
      simp [e]
    · obtain ⟨j, hj, rfl⟩ := Option.map_eq_some_iff.1 h
      rw [List.getElem?_cons_succ]; exact idxP_some hj
theorem eqPair (W : World) (p q : Nat × Nat) : (Op.equal 71 (pairV p) (pairV q)).run Tryz.prog W = .ok (decide (p = q)) W := by
  have hS : Tryz.prog.underlying 71 = some (.struct (Tryz.prog.fieldsOf 71)) := by kernel_rfl
  have hI : Tryz.prog.underlying 3 = some (.int .i64) := Tryz.underlying3
  unfold Op.equal
  rw [show Op.maxDepth = 9999 + 1 from rfl, run_equalIn_agg W 9999 71 _ _ hS (by kernel_rfl)]
  obtain ⟨p1, p2⟩ := p
  obtain ⟨q1, q2⟩ := q
  by_cases h1 : p1 = q1
  · by_cases h2 : p2 = q2
    · simp [Program.fieldsOf, Tryz.underlying71, Op.eqFields, go_sem, h1, h2]
    · have h2' : ¬ ((p2 : Int) = (q2 : Int)) := by omega
      simp [Program.fieldsOf, Tryz.underlying71, Op.eqFields, go_sem, h1, h2, h2']
  · have h1' : ¬ ((p1 : Int) = (q1 : Int)) := by omega
    simp [Program.fieldsOf, Tryz.underlying71, Op.eqFields, go_sem, h1, h1']
theorem find_run (W : World) (p : Nat × Nat) : ∀ (S : List (Nat × Nat)) (i j : Nat), (Instr.findAsking 71 (pairV p) (entL S i) j).run Tryz.prog W = .ok ((idxP p S).map fun k => (j + k, Value.bool true)) W
  | [], i, j => by simp [entL, Instr.findAsking, idxP]
  | q :: S, i, j => by
    unfold entL Instr.findAsking idxP
    simp only [Sem.run_bind, eqPair, Result.andThen_ok]
    by_cases h : p = q
    · simp [h]
    · simp [h, find_run W p S (i + 1) (j + 1)]
      cases idxP p S <;> simp [Nat.add_assoc, Nat.add_comm 1]
theorem findKey_run (W : World) (p : Nat × Nat) (S : List (Nat × Nat)) : (Instr.findKey 71 (pairV p) (entP S).toList).run Tryz.prog W = .ok ((idxP p S).map fun k => (k, Value.bool true)) W := by
  have hS : Tryz.prog.underlying 71 = some (.struct (Tryz.prog.fieldsOf 71)) := by kernel_rfl
  have hf := find_run W p S 0 0
  simp only [Nat.zero_add] at hf
  unfold Instr.findKey entP
  simp only [Sem.run_bind, run_underlying hS, Result.andThen_ok]
  cases S with
  | nil => simp [entL, Instr.findNow, idxP]
  | cons q S => simpa [entL, Instr.findNow, Instr.sameNow] using hf
theorem checkKey_int (W : World) (em : Bool) (n : Nat) (x : Int) : (Instr.checkKey em (n + 1) 3 (.int .i64 x)).run Tryz.prog W = .ok () W := by
  have hI : Tryz.prog.underlying 3 = some (.int .i64) := Tryz.underlying3
  unfold Instr.checkKey
  simp [run_underlying hI]
theorem checkKey_run (W : World) (em : Bool) (p : Nat × Nat) : (Instr.checkKey em 10000 71 (pairV p)).run Tryz.prog W = .ok () W := by
  have hS : Tryz.prog.underlying 71 = some (.struct (Tryz.prog.fieldsOf 71)) := by kernel_rfl
  have key : ∀ n, (Instr.checkKey em (n + 1 + 1) 71 (pairV p)).run Tryz.prog W = .ok () W := fun n => by
    rw [Instr.checkKey.eq_2]
    simp only [Sem.run_bind, run_underlying hS, Result.andThen_ok]
    simp [Program.fieldsOf, Tryz.underlying71, go_sem, checkKey_int]
  exact key 9998
/-- A map of the pairs that are seen. -/
def SetP (w : World) (b : Nat) (S : List (Nat × Nat)) : Prop := w.heap[b]? = some (.map (entP S) S.length) ∧ S.Nodup
theorem SetP.lt {w : World} {b : Nat} {S : List (Nat × Nat)} (h : SetP w b S) : b < w.heap.size := (Array.getElem?_eq_some_iff.1 h.1).1
theorem SetP.kept {w w' : World} {b : Nat} {S : List (Nat × Nat)} (h : SetP w b S) (hb : w'.heap[b]? = w.heap[b]?) : SetP w' b S := ⟨hb.trans h.1, h.2⟩
theorem SetP.ext {w w' : World} {b : Nat} {S : List (Nat × Nat)} (h : SetP w b S) (e : Ext w w') : SetP w' b S := h.kept (e.block b h.lt)
theorem SetP.grown {w w' : World} {b : Nat} {S : List (Nat × Nat)} {row : Option Nat} (h : SetP w b S) (g : w.grownBy w' row) (hr : row ≠ some b) : SetP w' b S := h.kept (g.block b h.lt (fun e => hr e.symm))
theorem SetP.made (w : World) : SetP (w.alloc (.map #[] 0)) w.heap.size [] := ⟨heap_alloc_new w _, List.nodup_nil⟩
theorem SetP.look {w : World} {b : Nat} {S : List (Nat × Nat)} (h : SetP w b S) (p : Nat × Nat) : (Instr.lookup 68 (.map (some b)) (pairV p) false).run Tryz.prog w = .ok (.bool (decide (p ∈ S))) w := by
  have hM : Tryz.prog.underlying 68 = some (.map 71 4) := Tryz.underlying68
  have hz : (zeroValue 4).run Tryz.prog w = .ok (.bool false) w := by kernel_rfl
  unfold Instr.lookup
  simp only [Sem.run_bind, run_underlying hM, Result.andThen_ok]
  have hg : (getObj b).run Tryz.prog w = .ok (.map (entP S) S.length) w := by simp [getObj, Sem.run, h.1]
  simp only [hg, Result.andThen_ok, Sem.run_bind, Sem.run_pure, checkKey_run, findKey_run]
  cases hi : idxP p S with
  | none =>
    have := (idxP_none p S).1 hi
    simp [this, hz]
  | some k =>
    have : p ∈ S := by
      have := idxP_some hi
      exact List.mem_of_getElem? this
    simp [this]
theorem sameBits_pair (p : Nat × Nat) : Instr.sameBits 10000 (pairV p) (pairV p) = true := by
  have key : ∀ n, Instr.sameBits (n + 1 + 1) (pairV p) (pairV p) = true := fun n => by simp [Instr.sameBits]
  exact key 9998
theorem modify_same {S : List (Nat × Nat)} {p : Nat × Nat} {k : Nat} (h : S[k]? = some p) : (entP S).modify k (fun e => { e with key := pairV p, val := .bool true }) = entP S := by
  apply Array.ext_getElem?
  intro i
  rw [Array.getElem?_modify]
  by_cases hi : k = i
  · subst hi
    unfold entP
    rw [if_pos rfl, List.getElem?_toArray, entL_getElem, h]; rfl
  · rw [if_neg hi]
theorem SetP.put_run {w : World} {b : Nat} {S : List (Nat × Nat)} (h : SetP w b S) (p : Nat × Nat) : ∃ w', (Instr.mapUpdate 68 (.map (some b)) (pairV p) (.bool true)).run Tryz.prog w = .ok () w' ∧ SetP w' b (if p ∈ S then S else S ++ [p]) ∧ w.grownBy w' (some b) ∧ w'.heap.size = w.heap.size := by
  have hM : Tryz.prog.underlying 68 = some (.map 71 4) := Tryz.underlying68
  have hg : (getObj b).run Tryz.prog w = .ok (.map (entP S) S.length) w := by simp [getObj, Sem.run, h.1]
  have hs : ∀ o, (setObj b o).run Tryz.prog w = .ok () (ChangeMaps.setBlock w b o) := fun o => by simp [setObj, Sem.run, h.1, ChangeMaps.setBlock]
  have hb : ∀ o, (ChangeMaps.setBlock w b o).heap[b]? = some o := fun o => by simp [ChangeMaps.setBlock, h.lt]
  have hgr : ∀ o, w.grownBy (ChangeMaps.setBlock w b o) (some b) := fun o => ⟨rfl, rfl, rfl, by simp [ChangeMaps.setBlock], fun k hk hne => by simp [ChangeMaps.setBlock, show b ≠ k from fun e => hne (by rw [e])]⟩
  unfold Instr.mapUpdate
  simp only [Sem.run_bind, run_underlying hM, Result.andThen_ok, hg, checkKey_run, findKey_run]
  cases hi : idxP p S with
  | none =>
    have hn := (idxP_none p S).1 hi
    refine ⟨_, by simp only [Option.map_none]; rw [hs], ?_, hgr _, by simp [ChangeMaps.setBlock]⟩
    rw [if_neg hn]
    refine ⟨?_, ?_⟩
    · rw [hb, entP_push]; simp
    · rw [List.nodup_append]
      exact ⟨h.2, by simp, fun a ha c hc => by simp at hc; subst hc; rintro rfl; exact hn ha⟩
  | some k =>
    have hk := idxP_some hi
    have hm : p ∈ S := List.mem_of_getElem? hk
    have hold : (((entP S)[k]?).map (·.key)).getD (pairV p) = pairV p := by
      unfold entP
      rw [List.getElem?_toArray, entL_getElem, hk]; rfl
    refine ⟨ChangeMaps.setBlock w b (.map (entP S) S.length), ?_, ?_, hgr _, by simp [ChangeMaps.setBlock]⟩
    · simp only [Option.map_some, Sem.run_bind, hold, Instr.keyThatStays, sameBits_pair, if_true, Sem.run_pure, Result.andThen_ok]
      rw [hs, modify_same hk]
    · rw [if_pos hm]
      exact ⟨hb _, h.2⟩
end Go.Proofs.YtlaamecfknkmlaaGreat
