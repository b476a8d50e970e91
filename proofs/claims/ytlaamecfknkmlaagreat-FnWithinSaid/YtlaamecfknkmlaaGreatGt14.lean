/- Merged texts: contracts and plain lemmas (Mw, Ay). -/
import Derived.Test.YtlaamecfknkmlaaGreatGt10
import Derived.Test.YtlaamecfknkmlaaGreatGt2
import Derived.Laws.StructEq
import Derived.Maps.Own
import Derived.Maps.RangeRun
import Derived.Test.YtlaamecfknkmlaaGreatGtAx
namespace Go.Proofs.YtlaamecfknkmlaaGreat
set_option linter.unusedVariables false
open Go.RowKit Go.Kt

def entL : List (Nat × Nat) → Nat → List MapEntry
  | [], _ => []
  | p :: S, i => { key := pairV p, val := .bool true, born := i } :: entL S (i + 1)
def entP (S : List (Nat × Nat)) : Array MapEntry := (entL S 0).toArray
def idxP (p : Nat × Nat) : List (Nat × Nat) → Option Nat
  | [] => none
  | q :: S => if p = q then some 0 else (idxP p S).map (· + 1)
theorem idxP_none (p : Nat × Nat) : ∀ S, idxP p S = none ↔ p ∉ S
  | [] => by simp [idxP]
  | q :: S => by
    have := idxP_none p S
    unfold idxP
    by_cases h : p = q
    · simp [h]
    · simp [h, this]
theorem entL_length : ∀ (S : List (Nat × Nat)) (i : Nat), (entL S i).length = S.length
  | [], _ => rfl
  | p :: S, i => by unfold entL; rw [List.length_cons, entL_length S]; rfl
theorem entL_append : ∀ (S T : List (Nat × Nat)) (i : Nat), entL (S ++ T) i = entL S i ++ entL T (i + S.length)
  | [], T, i => rfl
  | p :: S, T, i => by
    show _ :: entL (S ++ T) (i + 1) = _
    rw [entL_append S T]
    simp [entL, Nat.add_assoc, Nat.add_comm 1]
theorem entP_push (S : List (Nat × Nat)) (p : Nat × Nat) : (entP S).push { key := pairV p, val := .bool true, born := S.length } = entP (S ++ [p]) := by
  unfold entP
  rw [entL_append, List.push_toArray]
  simp [entL]
theorem entL_getElem : ∀ (S : List (Nat × Nat)) (i k : Nat), (entL S i)[k]? = (S[k]?).map fun p => { key := pairV p, val := .bool true, born := i + k }
  | [], _, _ => by simp [entL]
  | p :: S, i, 0 => by simp [entL]
  | p :: S, i, k + 1 => by
    unfold entL
    rw [List.getElem?_cons_succ, List.getElem?_cons_succ, entL_getElem S (i + 1) k]
    simp [Nat.add_assoc, Nat.add_comm 1]
theorem idxP_some {p : Nat × Nat} : ∀ {S : List (Nat × Nat)} {k : Nat}, idxP p S = some k → S[k]? = some p
  | [], k, h => by cases h
  | q :: S, k, h => by
    unfold idxP at h
    split at h
    · rename_i e
      obtain rfl := Option.some.inj h
      simp [e]
    · obtain ⟨j, hj, rfl⟩ := Option.map_eq_some_iff.1 h
      rw [List.getElem?_cons_succ]; exact idxP_some hj
theorem eqPair (W : World) (p q : Nat × Nat) : (Op.equal 71 (pairV p) (pairV q)).run Tryz.prog W = .ok (decide (p = q)) W := by
  have hS : Tryz.prog.underlying 71 = some (.struct (Tryz.prog.fieldsOf 71)) := by kernel_rfl
  have hI : Tryz.prog.underlying 3 = some (.int .i64) := Tryz.underlying3
  unfold Op.equal
  rw [show Op.maxDepth = 9999 + 1 from rfl, run_equalIn_agg W 9999 71 _ _ hS (by kernel_rfl)]
  obtain ⟨p1, p2⟩ := p
  obtain ⟨q1, q2⟩ := q
  by_cases h1 : p1 = q1
  · by_cases h2 : p2 = q2
    · simp [Program.fieldsOf, Tryz.underlying71, Op.eqFields, go_sem, h1, h2]
    · have h2' : ¬ ((p2 : Int) = (q2 : Int)) := by omega
      simp [Program.fieldsOf, Tryz.underlying71, Op.eqFields, go_sem, h1, h2, h2']
  · have h1' : ¬ ((p1 : Int) = (q1 : Int)) := by omega
    simp [Program.fieldsOf, Tryz.underlying71, Op.eqFields, go_sem, h1, h1']
theorem find_run (W : World) (p : Nat × Nat) : ∀ (S : List (Nat × Nat)) (i j : Nat), (Instr.findAsking 71 (pairV p) (entL S i) j).run Tryz.prog W = .ok ((idxP p S).map fun k => (j + k, Value.bool true)) W
  | [], i, j => by simp [entL, Instr.findAsking, idxP]
  | q :: S, i, j => by
    unfold entL Instr.findAsking idxP
    simp only [Sem.run_bind, eqPair, Result.andThen_ok]
    by_cases h : p = q
    · simp [h]
    · simp [h, find_run W p S (i + 1) (j + 1)]
      cases idxP p S <;> simp [Nat.add_assoc, Nat.add_comm 1]
theorem findKey_run (W : World) (p : Nat × Nat) (S : List (Nat × Nat)) : (Instr.findKey 71 (pairV p) (entP S).toList).run Tryz.prog W = .ok ((idxP p S).map fun k => (k, Value.bool true)) W := by
  have hS : Tryz.prog.underlying 71 = some (.struct (Tryz.prog.fieldsOf 71)) := by kernel_rfl
  have hf := find_run W p S 0 0
  simp only [Nat.zero_add] at hf
  unfold Instr.findKey entP
  simp only [Sem.run_bind, run_underlying hS, Result.andThen_ok]
  cases S with
  | nil => simp [entL, Instr.findNow, idxP]
  | cons q S => simpa [entL, Instr.findNow, Instr.sameNow] using hf
theorem checkKey_int (W : World) (em : Bool) (n : Nat) (x : Int) : (Instr.checkKey em (n + 1) 3 (.int .i64 x)).run Tryz.prog W = .ok () W := by
  have hI : Tryz.prog.underlying 3 = some (.int .i64) := Tryz.underlying3
  unfold Instr.checkKey
  simp [run_underlying hI]
theorem checkKey_run (W : World) (em : Bool) (p : Nat × Nat) : (Instr.checkKey em 10000 71 (pairV p)).run Tryz.prog W = .ok () W := by
  have hS : Tryz.prog.underlying 71 = some (.struct (Tryz.prog.fieldsOf 71)) := by kernel_rfl
  have key : ∀ n, (Instr.checkKey em (n + 1 + 1) 71 (pairV p)).run Tryz.prog W = .ok () W := fun n => by
    rw [Instr.checkKey.eq_2]
    simp only [Sem.run_bind, run_underlying hS, Result.andThen_ok]
    simp [Program.fieldsOf, Tryz.underlying71, go_sem, checkKey_int]
  exact key 9998
/-- A map of the pairs that are seen. -/
def SetP (w : World) (b : Nat) (S : List (Nat × Nat)) : Prop := w.heap[b]? = some (.map (entP S) S.length) ∧ S.Nodup
theorem SetP.lt {w : World} {b : Nat} {S : List (Nat × Nat)} (h : SetP w b S) : b < w.heap.size := (Array.getElem?_eq_some_iff.1 h.1).1
theorem SetP.kept {w w' : World} {b : Nat} {S : List (Nat × Nat)} (h : SetP w b S) (hb : w'.heap[b]? = w.heap[b]?) : SetP w' b S := ⟨hb.trans h.1, h.2⟩
theorem SetP.ext {w w' : World} {b : Nat} {S : List (Nat × Nat)} (h : SetP w b S) (e : Ext w w') : SetP w' b S := h.kept (e.block b h.lt)
theorem SetP.grown {w w' : World} {b : Nat} {S : List (Nat × Nat)} {row : Option Nat} (h : SetP w b S) (g : w.grownBy w' row) (hr : row ≠ some b) : SetP w' b S := h.kept (g.block b h.lt (fun e => hr e.symm))
theorem SetP.made (w : World) : SetP (w.alloc (.map #[] 0)) w.heap.size [] := ⟨heap_alloc_new w _, List.nodup_nil⟩
theorem SetP.look {w : World} {b : Nat} {S : List (Nat × Nat)} (h : SetP w b S) (p : Nat × Nat) : (Instr.lookup 68 (.map (some b)) (pairV p) false).run Tryz.prog w = .ok (.bool (decide (p ∈ S))) w := by
  have hM : Tryz.prog.underlying 68 = some (.map 71 4) := Tryz.underlying68
  have hz : (zeroValue 4).run Tryz.prog w = .ok (.bool false) w := by kernel_rfl
  unfold Instr.lookup
  simp only [Sem.run_bind, run_underlying hM, Result.andThen_ok]
  have hg : (getObj b).run Tryz.prog w = .ok (.map (entP S) S.length) w := by simp [getObj, Sem.run, h.1]
  simp only [hg, Result.andThen_ok, Sem.run_bind, Sem.run_pure, checkKey_run, findKey_run]
  cases hi : idxP p S with
  | none =>
    have := (idxP_none p S).1 hi
    simp [this, hz]
  | some k =>
    have : p ∈ S := by
      have := idxP_some hi
      exact List.mem_of_getElem? this
    simp [this]
theorem sameBits_pair (p : Nat × Nat) : Instr.sameBits 10000 (pairV p) (pairV p) = true := by
  have key : ∀ n, Instr.sameBits (n + 1 + 1) (pairV p) (pairV p) = true := fun n => by simp [Instr.sameBits]
  exact key 9998
theorem modify_same {S : List (Nat × Nat)} {p : Nat × Nat} {k : Nat} (h : S[k]? = some p) : (entP S).modify k (fun e => { e with key := pairV p, val := .bool true }) = entP S := by
  apply Array.ext_getElem?
  intro i
  rw [Array.getElem?_modify]
  by_cases hi : k = i
  · subst hi
    unfold entP
    rw [if_pos rfl, List.getElem?_toArray, entL_getElem, h]; rfl
  · rw [if_neg hi]
theorem SetP.put_run {w : World} {b : Nat} {S : List (Nat × Nat)} (h : SetP w b S) (p : Nat × Nat) : ∃ w', (Instr.mapUpdate 68 (.map (some b)) (pairV p) (.bool true)).run Tryz.prog w = .ok () w' ∧ SetP w' b (if p ∈ S then S else S ++ [p]) ∧ w.grownBy w' (some b) ∧ w'.heap.size = w.heap.size := by
  have hM : Tryz.prog.underlying 68 = some (.map 71 4) := Tryz.underlying68
  have hg : (getObj b).run Tryz.prog w = .ok (.map (entP S) S.length) w := by simp [getObj, Sem.run, h.1]
  have hs : ∀ o, (setObj b o).run Tryz.prog w = .ok () (ChangeMaps.setBlock w b o) := fun o => by simp [setObj, Sem.run, h.1, ChangeMaps.setBlock]
  have hb : ∀ o, (ChangeMaps.setBlock w b o).heap[b]? = some o := fun o => by simp [ChangeMaps.setBlock, h.lt]
  have hgr : ∀ o, w.grownBy (ChangeMaps.setBlock w b o) (some b) := fun o => ⟨rfl, rfl, rfl, by simp [ChangeMaps.setBlock], fun k hk hne => by simp [ChangeMaps.setBlock, show b ≠ k from fun e => hne (by rw [e])]⟩
  unfold Instr.mapUpdate
  simp only [Sem.run_bind, run_underlying hM, Result.andThen_ok, hg, checkKey_run, findKey_run]
  cases hi : idxP p S with
  | none =>
    have hn := (idxP_none p S).1 hi
    refine ⟨_, by simp only [Option.map_none]; rw [hs], ?_, hgr _, by simp [ChangeMaps.setBlock]⟩
    rw [if_neg hn]
    refine ⟨?_, ?_⟩
    · rw [hb, entP_push]; simp
    · rw [List.nodup_append]
      exact ⟨h.2, by simp, fun a ha c hc => by simp at hc; subst hc; rintro rfl; exact hn ha⟩
  | some k =>
    have hk := idxP_some hi
    have hm : p ∈ S := List.mem_of_getElem? hk
    have hold : (((entP S)[k]?).map (·.key)).getD (pairV p) = pairV p := by
      unfold entP
      rw [List.getElem?_toArray, entL_getElem, hk]; rfl
    refine ⟨ChangeMaps.setBlock w b (.map (entP S) S.length), ?_, ?_, hgr _, by simp [ChangeMaps.setBlock]⟩
    · simp only [Option.map_some, Sem.run_bind, hold, Instr.keyThatStays, sameBits_pair, if_true, Sem.run_pure, Result.andThen_ok]
      rw [hs, modify_same hk]
    · rw [if_pos hm]
      exact ⟨hb _, h.2⟩
end Go.Proofs.YtlaamecfknkmlaaGreat
namespace Go.Kt
set_option linter.unusedVariables false
open Go.Proofs.YtlaamecfknkmlaaGreat
def flatQ (L : List (Nat × Nat)) : List Value := L.flatMap fun p => [.int .i64 (p.1 : Nat), .int .i64 (p.2 : Nat)]
theorem flatQ_get : ∀ (L : List (Nat × Nat)) (i : Nat), i < L.length → (flatQ L)[i * 2]? = some (.int .i64 ((atP L i).1 : Nat)) ∧ (flatQ L)[i * 2 + 1]? = some (.int .i64 ((atP L i).2 : Nat))
  | [], i, h => by simp at h
  | p :: L, 0, h => by simp [flatQ, atP]
  | p :: L, i + 1, h => by
    have := flatQ_get L i (by simpa using h)
    rw [show (i + 1) * 2 = i * 2 + 2 by omega]
    have e : flatQ (p :: L) = .int .i64 (p.1 : Nat) :: .int .i64 (p.2 : Nat) :: flatQ L := by simp [flatQ]
    have e2 : atP (p :: L) (i + 1) = atP L i := by simp [atP]
    rw [e, e2]
    exact this
/-- A slice of pairs of the call's own. -/
def OwnQ (w : World) (B E : Nat) (v : Value) (L : List (Nat × Nat)) : Prop := w.ownsRow B E 2 v L.length (flatQ L)
theorem OwnQ.ext {w w' : World} {B E : Nat} {v : Value} {L : List (Nat × Nat)} (h : OwnQ w B E v L) (e : Ext w w') : OwnQ w' B E v L := own_ext h e
theorem OwnQ.mono {w : World} {B B' E : Nat} {v : Value} {L : List (Nat × Nat)} (h : OwnQ w B E v L) (hB : B' ≤ B) : OwnQ w B' E v L := own_mono h hB
theorem OwnQ.kept {w w' : World} {B E : Nat} {v : Value} {L : List (Nat × Nat)} {row : Option Nat} (h : OwnQ w B E v L) (hg : w.grownBy w' row) (hne : v.ownBlock = none ∨ v.ownBlock ≠ row) : OwnQ w' B E v L := World.ownsRow.kept h hg hne
theorem OwnQ.lt {w : World} {B E : Nat} {v : Value} {L : List (Nat × Nat)} (h : OwnQ w B E v L) : ∀ k, v.ownBlock = some k → B ≤ k ∧ k < w.heap.size := World.ownsRow.lt h
theorem OwnQ.nil (w : World) (B E : Nat) : OwnQ w B E (.slice none 0 0) [] := ⟨rfl, .inl ⟨rfl, rfl⟩⟩
theorem OwnQ.typed {w : World} {B E : Nat} {v : Value} {L : List (Nat × Nat)} (h : OwnQ w B E v L) : ∀ k, v.ownBlock = some k → ∃ cs fz, w.heap[k]? = some (.cells cs E fz) := fun k hk => by
  rcases h.2 with ⟨rfl, _⟩ | ⟨g, cap, cur, rfl, _, hg, _⟩
  · cases hk
  · obtain rfl : g = k := Option.some.inj hk
    exact ⟨cur, (0, 0), hg⟩
theorem OwnQ.shape {w : World} {B E : Nat} {v : Value} {L : List (Nat × Nat)} (h : OwnQ w B E v L) : ∃ a c, v = .slice a L.length c := by
  rcases h.2 with ⟨rfl, h0⟩ | ⟨g, cap, cur, rfl, _⟩
  · exact ⟨none, 0, by rw [h0]⟩
  · exact ⟨_, cap, rfl⟩
theorem OwnQ.row {w : World} {B E n cap : Nat} {a : Option Addr} {L : List (Nat × Nat)} (h : OwnQ w B E (.slice a n cap) L) (hn : 0 < L.length) :
    ∃ g, a = some ⟨g, 0, none⟩ ∧ n = L.length ∧ B ≤ g ∧ g < w.heap.size ∧ ∀ i, i < L.length → w.cell? ⟨g, i * 2, none⟩ = some (.int .i64 ((atP L i).1 : Nat)) ∧ w.cell? ⟨g, i * 2 + 1, none⟩ = some (.int .i64 ((atP L i).2 : Nat)) := by
  have h' := h
  rcases h'.2 with ⟨_, h0⟩ | ⟨g, cap', cur, hv, hB, hg, _⟩
  · omega
  · have hv' : a = some ⟨g, 0, none⟩ ∧ n = L.length ∧ cap = cap' := by simpa using hv
    obtain ⟨rfl, rfl, rfl⟩ := hv'
    refine ⟨g, rfl, rfl, hB, (Array.getElem?_eq_some_iff.1 hg).1, fun i hi => ⟨?_, ?_⟩⟩
    · rw [World.ownsRow.cellAt h (i * 2) (by omega)]; exact (flatQ_get L i hi).1
    · rw [World.ownsRow.cellAt h (i * 2 + 1) (by omega)]; exact (flatQ_get L i hi).2
theorem OwnQ.grown {w0 w w' : World} {E : Nat} {v : Value} {L : List (Nat × Nat)} (h : OwnQ w w0.heap.size E v L) (hx : Ext w0 w) (hg : w.grownBy w' v.ownBlock) : Ext w0 w' :=
  Ext.row hx hg fun k hk => (h.lt k hk).1
theorem OwnQ.lit (w : World) (B E : Nat) (p : Nat × Nat) (hB : B ≤ w.heap.size) : OwnQ (w.alloc (.cells #[.int .i64 (p.1 : Nat), .int .i64 (p.2 : Nat)] E)) B E (.slice (some ⟨w.heap.size, 0, none⟩) 1 1) [p] :=
  World.ownsRow_lit (base := B) (e := E) (size := 2) w #[.int .i64 (p.1 : Nat), .int .i64 (p.2 : Nat)] 1 hB (by unfold maxLen; omega) rfl
theorem flatQ_app (L M : List (Nat × Nat)) : flatQ (L ++ M) = flatQ L ++ flatQ M := by simp [flatQ]
/-- append of one pair. -/
theorem want_append_q {P : Program} {ops : Array Oper} {rest : List Oper} {o : Oper} {a : Act} {Q : Exit → Act → World → Prop} {w : World} (hw : Region.wanted o (yielded ops a.tmps) = true) (s x : Operand) (t : TypeId)
    (ho : o.op = .call { callee := .builtin .append, args := #[s, x], argTypes := #[t, t] }) (B E : Nat) (ht : P.underlying t = some (.slice E))
    (hinfo : (P.info? E).map (fun i => (i.zero, i.size, i.bytes)) = some (some (.agg #[.int .i64 0, .int .i64 0]), 2, 16))
    (v : Value) (L : List (Nat × Nat)) (hs : a.eval s = v) (hown : OwnQ w B E v L) (g : Nat) (p : Nat × Nat) (hx : a.eval x = .slice (some ⟨g, 0, none⟩) 1 1)
    (hc0 : w.cell? ⟨g, 0, none⟩ = some (.int .i64 (p.1 : Nat))) (hc1 : w.cell? ⟨g, 1, none⟩ = some (.int .i64 (p.2 : Nat)))
    (hlen : L.length + 1 ≤ 1099511627776) (hB : B ≤ w.heap.size)
    (h : ∀ v' w', OwnQ w' B E v' (L ++ [p]) → w.grownBy w' v.ownBlock → wpList P ops Q rest (a.put o.dst v') w') : wpList P ops Q (o :: rest) a w := by
  obtain ⟨i, hi, hz0, hz1, hz2⟩ := info_parts hinfo
  refine BigFrame.wpList_want hw fun K hK' => ?_
  refine wp_append_own w s x t ho B E i _ 2 16 ht hi hz0 hz1 hz2 rfl (by decide) v L.length (flatQ L) hs hown ⟨g, 0, none⟩ 1 1 [.int .i64 (p.1 : Nat), .int .i64 (p.2 : Nat)] hx rfl ?_ ?_ (by unfold maxLen; omega) (by omega) hB ?_
  · intro j u' hj
    match j, hj with
    | 0, hj => simp at hj; subst hj; simpa [Addr.add] using hc0
    | 1, hj => simp at hj; subst hj; simpa [Addr.add] using hc1
    | j + 2, hj => simp at hj
  · intro u' hu
    simp at hu
    rcases hu with rfl | rfl <;> rfl
  · intro v' w' h1 h2 _
    refine hK' _ _ (h v' w' ?_ h2)
    unfold OwnQ
    rw [flatQ_app, List.length_append]
    exact h1
end Go.Kt
namespace Go.Proofs.YtlaamecfknkmlaaGreat
set_option linter.unusedVariables false
open Go.RowKit Go.Kt
theorem infoPair : (Tryz.prog.info? 71).map (fun i => (i.zero, i.size, i.bytes)) = some (some (.agg #[.int .i64 0, .int .i64 0]), 2, 16) := by kernel_rfl
/-- m[p] = true. -/
theorem wpList_put {ops : Array Oper} {rest : List Oper} {o : Oper} {a : Act} {Q : Exit → Act → World → Prop} {w : World} (hg : o.guard = none) (m x v : Operand)
    (hop : o.op = Op.mapUpdate 68 m x v) (b : Nat) (S : List (Nat × Nat)) (p : Nat × Nat) (hm : a.eval m = .map (some b)) (hx : a.eval x = pairV p) (hv : a.eval v = .bool true) (hown : SetP w b S)
    (hK : ∀ w', SetP w' b (if p ∈ S then S else S ++ [p]) → w.grownBy w' (some b) → w'.heap.size = w.heap.size → wpList Tryz.prog ops Q rest (a.put o.dst undef) w') : wpList Tryz.prog ops Q (o :: rest) a w := by
  refine wpList_plain hg fun K' hK' => ?_
  obtain ⟨w', hrun, r1, r2, r3⟩ := hown.put_run p
  unfold Oper.wp
  simp [execOp, hop, hm, hx, hv, hrun, Result.andThen]
  exact hK' _ _ (hK w' r1 r2 r3)
theorem wpList_ins {ops : Array Oper} {rest : List Oper} {o : Oper} {a : Act} {Q : Exit → Act → World → Prop} {w : World} (hg : o.guard = none) (m x v : Operand)
    (hop : o.op = Op.insert 68 m x v) (b : Nat) (S : List (Nat × Nat)) (p : Nat × Nat) (hm : a.eval m = .map (some b)) (hx : a.eval x = pairV p) (hv : a.eval v = .bool true) (hown : SetP w b S)
    (hK : ∀ w', SetP w' b (if p ∈ S then S else S ++ [p]) → w.grownBy w' (some b) → w'.heap.size = w.heap.size → wpList Tryz.prog ops Q rest (a.put o.dst undef) w') : wpList Tryz.prog ops Q (o :: rest) a w := by
  refine wpList_plain hg fun K' hK' => ?_
  obtain ⟨w', hrun, r1, r2, r3⟩ := hown.put_run p
  unfold Oper.wp
  simp [execOp, hop, hm, hx, hv, hrun, Result.andThen]
  exact hK' _ _ (hK w' r1 r2 r3)
/-- Both automata, as they stand. -/
def TogAt (w : World) (e f : List Int) (v : Value) : Prop := ∃ a1 c1 a2 c2 b1 d1 b2 d2, v = togV a1 (auE e).length c1 a2 (auN e).length c2 b1 (auE f).length d1 b2 (auN f).length d2 ∧ IntsAt w a1 (auE e) ∧ RowsAt w a2 (auN e) ∧ IntsAt w b1 (auE f) ∧ RowsAt w b2 (auN f)
theorem TogAt.ext {w w' : World} {e f : List Int} {v : Value} (h : TogAt w e f v) (x : Ext w w') : TogAt w' e f v := by
  obtain ⟨a1, c1, a2, c2, b1, d1, b2, d2, h0, h1, h2, h3, h4⟩ := h
  exact ⟨a1, c1, a2, c2, b1, d1, b2, d2, h0, h1.ext x, h2.ext x, h3.ext x, h4.ext x⟩
def RetAs (w : World) (e f : List Int) (r : Ending) (w' : World) : Prop := ∃ v, r = .returned (.tuple #[v, .bool (auB e && auB f)]) ∧ TogAt w' e f v ∧ Ext w w'
set_option maxRecDepth 100000 in
set_option maxHeartbeats 1000000 in
theorem autosOf_c (a b : Option Addr) (c d : Nat) (e f : List Int) (w : World) (he : IntsAt w a e) (hf : IntsAt w b f) (hle : e.length ≤ 4194304) (hlf : f.length ≤ 4194304) :
    Calls Tryz.prog 55 #[.slice a e.length c, .slice b f.length d] w (RetAs w e f) := by
  have CE : Hid (∀ w', Ext w w' → Calls Tryz.prog 115 #[.slice a e.length c] w' (RetAu w' e)) := fun w' x => autoOf_c a c e w' (he.ext x) hle
  have CF : Hid (∀ w', Ext w w' → Calls Tryz.prog 115 #[.slice b f.length d] w' (RetAu w' f)) := fun w' x => autoOf_c b d f w' (hf.ext x) hlf
  have h1 := auE_iff e
  have h2 := auE_iff f
  clear he hf
  generalize e.length = ne at *
  generalize f.length = nf at *
  go_enter Tryz.func55, Tryz.ntmps55
  go_wp2_with fail
  refine (CE.out _ (by (repeat (first | exact Ext.refl _ | assumption | refine Ext.alloc ?_ _ | refine Ext.drewN ?_ _ | refine Ext.drew ?_)))).mono ?_
  rintro r w1 ⟨a1, c1, a2, c2, rfl, i1, x1⟩
  have X1 := Lib.hid (Ext.trans (show Ext w _ by (repeat (first | exact Ext.refl _ | assumption | refine Ext.alloc ?_ _ | refine Ext.drewN ?_ _ | refine Ext.drew ?_))) x1)
  have y1 := x1
  have hz1 := x1.size
  simp at hz1
  have I1 := Lib.hid i1
  clear i1
  go_wp2_with fail
  refine (CF.out _ X1.out).mono ?_
  rintro r w2 ⟨b1, d1, b2, d2, rfl, i3, x2⟩
  have y2 := y1.trans x2
  have q0 : w2.cell? ⟨w.heap.size, 0, none⟩ = some (.slice none 0 0) := y2.cell' (by simp [go_sem]) (by simp)
  have q1 : w2.cell? ⟨w.heap.size, 1, none⟩ = some (.slice none 0 0) := y2.cell' (by simp [go_sem]) (by simp)
  have q2 : w2.cell? ⟨w.heap.size, 2, none⟩ = some (.slice none 0 0) := y2.cell' (by simp [go_sem]) (by simp)
  have q3 : w2.cell? ⟨w.heap.size, 3, none⟩ = some (.slice none 0 0) := y2.cell' (by simp [go_sem]) (by simp)
  have f0 : w2.frozen? ⟨w.heap.size, 0, none⟩ = false := (y2.cells.2 _ _ (by simp)).trans (by simp [go_sem])
  have f1 : w2.frozen? ⟨w.heap.size, 1, none⟩ = false := (y2.cells.2 _ _ (by simp)).trans (by simp [go_sem])
  have f2 : w2.frozen? ⟨w.heap.size, 2, none⟩ = false := (y2.cells.2 _ _ (by simp)).trans (by simp [go_sem])
  have f3 : w2.frozen? ⟨w.heap.size, 3, none⟩ = false := (y2.cells.2 _ _ (by simp)).trans (by simp [go_sem])
  have hzw : w.heap.size < w2.heap.size := by have := x2.size; omega
  have hzn : w.heap.size ≠ w2.heap.size := by omega
  have X2 := Lib.hid (X1.out.trans x2)
  have qh : ∃ cs fz, w2.heap[w.heap.size]? = some (.cells cs 65 fz) := ⟨_, _, (y2.block _ (by simp)).trans (heap_alloc_new w _)⟩
  have R1 : AuR w2 (w.heap.size + 1) e a1 c1 a2 c2 := (I1.out.mono (by simp)).ext x2
  have R2 : AuR w2 (w.heap.size + 1) f b1 d1 b2 d2 := i3.mono (by omega)
  have T2 : Hid (∀ w' u0 u1 u2 u3, Ext w2 w' → TogAt ((((w'.setCell ⟨w.heap.size, 0, none⟩ u0).setCell ⟨w.heap.size, 1, none⟩ u1).setCell ⟨w.heap.size, 2, none⟩ u2).setCell ⟨w.heap.size, 3, none⟩ u3) e f (togV a1 (auE e).length c1 a2 (auN e).length c2 b1 (auE f).length d1 b2 (auN f).length d2)) := fun w' u0 u1 u2 u3 x => by
    have hty : (3 : Nat) ≠ 65 := by decide
    have k0 : ∃ cs fz, w'.heap[w.heap.size]? = some (.cells cs 65 fz) := by
      obtain ⟨cs, fz, h⟩ := qh
      exact ⟨cs, fz, (x.block _ (by omega)).trans h⟩
    have k1 := typed_put k0 0 u0
    have k2 := typed_put k1 1 u1
    have k3 := typed_put k2 2 u2
    have hlt : w.heap.size < w.heap.size + 1 := Nat.lt_succ_self _
    have S1 := ((((R1.ext x).put hlt hty k0 0 u0).put hlt hty k1 1 u1).put hlt hty k2 2 u2).put hlt hty k3 3 u3
    have S2 := ((((R2.ext x).put hlt hty k0 0 u0).put hlt hty k1 1 u1).put hlt hty k2 2 u2).put hlt hty k3 3 u3
    exact ⟨a1, c1, a2, c2, b1, d1, b2, d2, rfl, S1.1.ints, S1.2.rows, S2.1.ints, S2.2.rows⟩
  clear x1 x2 y1 y2 i3 CE CF R1 R2 qh
  have HF0 : Hid (∀ v w', TogAt w' e f v → Ext w w' → RetAs w e f (.returned (.tuple #[v, .bool (auB e && auB f)])) w') := fun v w' h1 h2 => ⟨v, rfl, h1, h2⟩
  generalize hB1 : auB e = B1 at *
  generalize hB2 : auB f = B2 at *
  generalize (auN e).length = n2 at *
  generalize (auN f).length = n4 at *
  generalize hn1 : (auE e).length = n1 at *
  generalize hn3 : (auE f).length = n3 at *
  clear hB1 hB2 hn1 hn3 I1
  cases B1
  · obtain rfl : n1 = 0 := by have := h1.2; simp at h1; omega
    clear h1 h2
    go_wp2
    (first | go_region | fail)
    all_goals
      have T3 := T2.out w2 (.slice a1 0 c1) (.slice a2 n2 c2) (.slice b1 n3 d1) (.slice b2 n4 d2) (Ext.refl _)
      have X3 := (((X2.out.setCell (p := ⟨w.heap.size, 0, none⟩) (Nat.le_refl _) (.slice a1 0 c1)).setCell (p := ⟨w.heap.size, 1, none⟩) (Nat.le_refl _) (.slice a2 n2 c2)).setCell (p := ⟨w.heap.size, 2, none⟩) (Nat.le_refl _) (.slice b1 n3 d1)).setCell (p := ⟨w.heap.size, 3, none⟩) (Nat.le_refl _) (.slice b2 n4 d2)
      go_wp2
      refine bodyPost_ret (v := .tuple #[togV a1 0 c1 a2 n2 c2 b1 n3 d1 b2 n4 d2, .bool false]) (by simp [results, Tryz.results55, go_sem, q0, q1, q2, q3, hzw]) rfl ?_
      exact HF0.out _ _ (T3.ext ((Ext.refl _).alloc _).drew) (X3.trans ((Ext.refl _).alloc _).drew)
  · have p1 : 0 < n1 := h1.1 rfl
    have p1' : (0 : Int) < (n1 : Int) := by omega
    clear h1
    cases B2
    · obtain rfl : n3 = 0 := by have := h2.2; simp at h2; omega
      clear h2
      go_wp2
      (first | go_region | fail)
      all_goals
        have T3 := T2.out w2 (.slice a1 n1 c1) (.slice a2 n2 c2) (.slice b1 0 d1) (.slice b2 n4 d2) (Ext.refl _)
        have X3 := (((X2.out.setCell (p := ⟨w.heap.size, 0, none⟩) (Nat.le_refl _) (.slice a1 n1 c1)).setCell (p := ⟨w.heap.size, 1, none⟩) (Nat.le_refl _) (.slice a2 n2 c2)).setCell (p := ⟨w.heap.size, 2, none⟩) (Nat.le_refl _) (.slice b1 0 d1)).setCell (p := ⟨w.heap.size, 3, none⟩) (Nat.le_refl _) (.slice b2 n4 d2)
        go_wp2
        refine bodyPost_ret (v := .tuple #[togV a1 n1 c1 a2 n2 c2 b1 0 d1 b2 n4 d2, .bool false]) (by simp [results, Tryz.results55, go_sem, q0, q1, q2, q3, hzw]) rfl ?_
        exact HF0.out _ _ (T3.ext ((Ext.refl _).alloc _).drew) (X3.trans ((Ext.refl _).alloc _).drew)
    · have p3 : 0 < n3 := h2.1 rfl
      have p3' : (0 : Int) < (n3 : Int) := by omega
      clear h2
      go_wp2
      (first | go_region | fail)
      all_goals
        have T3 := T2.out w2 (.slice a1 n1 c1) (.slice a2 n2 c2) (.slice b1 n3 d1) (.slice b2 n4 d2) (Ext.refl _)
        have X3 := (((X2.out.setCell (p := ⟨w.heap.size, 0, none⟩) (Nat.le_refl _) (.slice a1 n1 c1)).setCell (p := ⟨w.heap.size, 1, none⟩) (Nat.le_refl _) (.slice a2 n2 c2)).setCell (p := ⟨w.heap.size, 2, none⟩) (Nat.le_refl _) (.slice b1 n3 d1)).setCell (p := ⟨w.heap.size, 3, none⟩) (Nat.le_refl _) (.slice b2 n4 d2)
        go_wp2
        refine bodyPost_ret (v := .tuple #[togV a1 n1 c1 a2 n2 c2 b1 n3 d1 b2 n4 d2, .bool true]) (by simp [results, Tryz.results55, go_sem, q0, q1, q2, q3, hzw]) rfl ?_
        exact HF0.out _ _ (T3.ext ((Ext.refl _).alloc _).drew) (X3.trans ((Ext.refl _).alloc _).drew)
end Go.Proofs.YtlaamecfknkmlaaGreat
