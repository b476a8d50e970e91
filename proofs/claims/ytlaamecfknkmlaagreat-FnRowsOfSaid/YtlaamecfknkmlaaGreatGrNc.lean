/- Merged texts: contracts and plain lemmas (Nc). -/
import Derived.Test.YtlaamecfknkmlaaGreatGrNa
import Derived.Maps.Range
/- Plain law and laws at operations: the set of the pairs of rows; a round over a map of pairs. -/
namespace Go.Kt
set_option linter.unusedVariables false
def addS (S : List (Nat × Nat)) (p : Nat × Nat) : List (Nat × Nat) := if p ∈ S then S else S ++ [p]
/-- The pairs of the first rows, each once. -/
def rowsS (L : List (List Int)) : Nat → List (Nat × Nat)
  | 0 => []
  | k + 1 => addS (rowsS L k) (pairP (rowI L k))
theorem mem_addS (S : List (Nat × Nat)) (p q : Nat × Nat) : q ∈ addS S p ↔ q ∈ S ∨ q = p := by
  unfold addS
  split
  · rename_i h
    exact ⟨.inl, fun h' => h'.elim id (fun e => e ▸ h)⟩
  · simp
theorem mem_rowsS (L : List (List Int)) (p : Nat × Nat) : ∀ k, p ∈ rowsS L k ↔ ∃ j, j < k ∧ pairP (rowI L j) = p
  | 0 => by simp [rowsS]
  | k + 1 => by
    unfold rowsS
    rw [mem_addS, mem_rowsS L p k]
    constructor
    · rintro (⟨j, h1, h2⟩ | h)
      · exact ⟨j, by omega, h2⟩
      · exact ⟨k, by omega, h.symm⟩
    · rintro ⟨j, h1, h2⟩
      by_cases e : j = k
      · subst e; exact .inr h2.symm
      · exact .inl ⟨j, by omega, h2⟩
theorem rowsS_lt {n m k : Nat} {L : List (List Int)} (hk : k ≤ L.length) (h : ∀ j, j < k → rowB n m (rowI L j) = true) : ∀ p, p ∈ rowsS L k → p.1 < 2 ^ n ∧ p.2 < 2 ^ m := fun p hp => by
  obtain ⟨j, hj, rfl⟩ := (mem_rowsS L p k).1 hp
  have := rowB_pair (h j hj)
  exact ⟨this.2.1, this.2.2⟩
theorem rowsS_len (L : List (List Int)) : ∀ k, (rowsS L k).length ≤ k
  | 0 => Nat.le_refl _
  | k + 1 => by
    have := rowsS_len L k
    unfold rowsS addS
    split
    · omega
    · rw [List.length_append]; simp; omega
theorem hasP_rowsS {n m : Nat} {L : List (List Int)} (h : ∀ j, j < L.length → rowB n m (rowI L j) = true) (p : Nat × Nat) : rowP p ∈ L ↔ p ∈ rowsS L L.length := by
  rw [mem_rowsS]
  constructor
  · intro hp
    obtain ⟨j, hj, he⟩ := List.mem_iff_getElem.1 hp
    refine ⟨j, hj, ?_⟩
    rw [rowI_getElem _ _ hj, he, pairP_rowP]
  · rintro ⟨j, hj, rfl⟩
    rw [(rowB_pair (h j hj)).1, rowI_getElem _ _ hj]
    exact List.getElem_mem hj
/-- What is asked of each pair. -/
def chkB (E F : List Int) (N M : List (List Int)) (S : List (Nat × Nat)) (p : Nat × Nat) : Bool := endB E F p && (List.range 12).all fun m => decide (nxP N M p m ∈ S)
theorem okB_rows {e f : List Int} {L : List (List Int)} (h1 : (auB e && auB f) = true) (h2 : L.length ≤ 100) (h3 : ∀ j, j < L.length → rowB (auE e).length (auE f).length (rowI L j) = true) :
    okB e f L = (decide ((1, 1) ∈ rowsS L L.length) && (rowsS L L.length).all (chkB (auE e) (auE f) (auN e) (auN f) (rowsS L L.length))) := by
  have hh := hasP_rowsS h3
  have hall : L.all (rowB (auE e).length (auE f).length) = true := by
    rw [List.all_eq_true]
    intro r hr
    obtain ⟨j, hj, rfl⟩ := List.mem_iff_getElem.1 hr
    have := h3 j hj
    rw [rowI_getElem _ _ hj] at this; exact this
  unfold okB
  rw [h1, hall, decide_eq_true h2, Bool.true_and, Bool.true_and, Bool.true_and]
  have e1 : hasP L (1, 1) = decide ((1, 1) ∈ rowsS L L.length) := by unfold hasP; rw [decide_eq_decide]; exact hh (1, 1)
  rw [e1]
  congr 1
  rw [Bool.eq_iff_iff, List.all_eq_true, List.all_eq_true]
  have hm : ∀ p, movB (auN e) (auN f) L p 12 = (List.range 12).all fun m => decide (nxP (auN e) (auN f) p m ∈ rowsS L L.length) := fun p => by
    unfold movB
    congr 1
    funext m
    unfold hasP
    rw [decide_eq_decide]; exact hh _
  constructor
  · intro h p hp
    obtain ⟨j, hj, rfl⟩ := (mem_rowsS L p _).1 hp
    have := h (rowI L j) (by rw [rowI_getElem _ _ hj]; exact List.getElem_mem hj)
    unfold stepB at this
    rw [hm] at this
    exact this
  · intro h r hr
    obtain ⟨j, hj, rfl⟩ := List.mem_iff_getElem.1 hr
    have := h (pairP (rowI L j)) ((mem_rowsS L _ _).2 ⟨j, hj, rfl⟩)
    rw [rowI_getElem _ _ hj] at this
    unfold stepB
    rw [hm]
    exact this
theorem okB_bad {e f : List Int} {L : List (List Int)} {k : Nat} (hk : k < L.length) (h : rowB (auE e).length (auE f).length (rowI L k) = false) : okB e f L = false := by
  have : L.all (rowB (auE e).length (auE f).length) = false := by
    rw [Bool.eq_false_iff]
    intro ha
    rw [List.all_eq_true] at ha
    have := ha (rowI L k) (by rw [rowI_getElem _ _ hk]; exact List.getElem_mem hk)
    rw [h] at this; cases this
  unfold okB
  rw [this]; simp
theorem okB_off {e f : List Int} {L : List (List Int)} (h : (auB e && auB f) = false) : okB e f L = false := by unfold okB; rw [h]; rfl
theorem okB_many {e f : List Int} {L : List (List Int)} (h : 100 < L.length) : okB e f L = false := by
  have : decide (L.length ≤ 100) = false := by simp; omega
  unfold okB
  rw [this]; simp
end Go.Kt
namespace Go.Proofs.YtlaamecfknkmlaaGreat
set_option linter.unusedVariables false
open Go.RowKit Go.Kt
/-- An iterator over a map of pairs; those that are seen meet C. -/
def RngP (w : World) (b r : Nat) (S : List (Nat × Nat)) (C : Nat × Nat → Prop) : Prop :=
  SetP w b S ∧ r ≠ b ∧ ∃ seen : Array Nat, w.heap[r]? = some (.mapIter (some b) S.length seen S.length) ∧ ∀ i, i < S.length → seen.contains i = true → C (atP S i)
theorem born_entP {S : List (Nat × Nat)} {e : MapEntry} (h : e ∈ (entP S).toList) : e.born < S.length ∧ e = { key := pairV (atP S e.born), val := .bool true, born := e.born } := by
  unfold entP at h
  obtain ⟨k, hk⟩ := List.mem_iff_getElem?.1 h
  have hl : k < (entL S 0).length := (List.getElem?_eq_some_iff.1 hk).1
  rw [entL_length] at hl
  have hk2 : (entL S 0)[k]? = some e := hk
  rw [entL_getElem, List.getElem?_eq_getElem hl] at hk2
  have := Option.some.inj hk2
  subst this
  refine ⟨by simpa using hl, ?_⟩
  simp [atP_getElem _ _ hl]
theorem ent_mem {S : List (Nat × Nat)} {i : Nat} (h : i < S.length) : ({ key := pairV (atP S i), val := .bool true, born := i } : MapEntry) ∈ (entP S).toList := by
  unfold entP
  rw [List.mem_iff_getElem?]
  refine ⟨i, ?_⟩
  show (entL S 0)[i]? = _
  rw [entL_getElem, List.getElem?_eq_getElem h]
  simp [atP_getElem _ _ h]
theorem entL_nodup : ∀ (S : List (Nat × Nat)) (i : Nat), ((entL S i).map (·.born)).Nodup ∧ ∀ b, b ∈ (entL S i).map (·.born) → i ≤ b
  | [], i => by simp [entL]
  | p :: S, i => by
    obtain ⟨h1, h2⟩ := entL_nodup S (i + 1)
    unfold entL
    rw [List.map_cons]
    refine ⟨List.nodup_cons.2 ⟨fun h => ?_, h1⟩, fun b hb => ?_⟩
    · have h3 : i + 1 ≤ i := h2 _ h
      omega
    · rcases List.mem_cons.1 hb with h | h
      · subst h; exact Nat.le_refl _
      · have := h2 b h; omega
theorem left_less {es : Array MapEntry} {seen : Array Nat} {e : MapEntry} (h : e ∈ (leftOf es seen).toList) : (leftOf es (seen.push e.born)).size < (leftOf es seen).size := by
  have hs : ∀ sn : Array Nat, (leftOf es sn).size = (es.toList.filter fun x => !sn.contains x.born).length := fun sn => by unfold leftOf; rw [← Array.toList_filter, Array.length_toList]
  rw [hs, hs]
  unfold leftOf at h
  rw [Array.toList_filter, List.mem_filter] at h
  obtain ⟨h1, h2⟩ := h
  have e1 : es.toList.filter (fun x => !(seen.push e.born).contains x.born) = (es.toList.filter fun x => !seen.contains x.born).filter fun x => !(x.born == e.born) := by
    rw [List.filter_filter]
    congr 1
    funext x
    by_cases hx : x.born = e.born
    · simp [hx]
    · simp [Array.mem_push, hx]
  rw [e1]
  exact List.length_filter_lt_length_iff_exists.2 ⟨e, List.mem_filter.2 ⟨h1, h2⟩, by simp⟩
theorem RngP.left {w : World} {b r : Nat} {S : List (Nat × Nat)} {seen : Array Nat} (h : SetP w b S) (hr : w.heap[r]? = some (.mapIter (some b) S.length seen S.length)) : w.rangeLeft b r = (leftOf (entP S) seen).size := by
  unfold World.rangeLeft
  rw [h.1, hr]
/-- range m. -/
theorem wpList_rangeP {ops : Array Oper} {rest : List Oper} {o : Oper} {a : Act} {Q : Exit → Act → World → Prop} {w : World} (hg : o.guard = none) (m : Operand)
    (hop : o.op = Op.range 68 m) (b : Nat) (S : List (Nat × Nat)) (C : Nat × Nat → Prop) (hm : a.eval m = .map (some b)) (hown : SetP w b S)
    (hK : ∀ w', RngP w' b w.heap.size S C → Ext w w' → w'.heap.size = w.heap.size + 1 → wpList Tryz.prog ops Q rest (a.put o.dst (.pointer (some ⟨w.heap.size, 0, none⟩))) w') : wpList Tryz.prog ops Q (o :: rest) a w := by
  refine wpList_plain hg fun K' hK' => ?_
  have hM : Tryz.prog.underlying 68 = some (.map 71 4) := Tryz.underlying68
  have hgo : (getObj b).run Tryz.prog w = .ok (.map (entP S) S.length) w := by simp [getObj, Sem.run, hown.1]
  have hrun : (Instr.range 68 (.map (some b))).run Tryz.prog w = .ok (.pointer (some ⟨w.heap.size, 0, none⟩)) (w.alloc (.mapIter (some b) S.length #[] S.length)) := by
    unfold Instr.range
    simp only [Sem.run_bind, run_underlying hM, Result.andThen_ok, hgo, Sem.run_pure]
    rfl
  have hx : Ext w (w.alloc (.mapIter (some b) S.length #[] S.length)) := (Ext.refl _).alloc _
  have hk := hK _ ⟨hown.ext hx, by have := hown.lt; omega, #[], heap_alloc_new w _, fun i _ h => by simp at h⟩ hx (by simp)
  unfold Oper.wp
  simp [execOp, hop, hm, hrun, Result.andThen]
  exact hK' _ _ hk
/-- The step of a round over a map. -/
theorem wpList_nextP {ops : Array Oper} {rest : List Oper} {o : Oper} {a : Act} {Q : Exit → Act → World → Prop} {w : World} (hg : o.guard = none) (it : Operand)
    (hop : o.op = Op.next it false) (b r : Nat) (S : List (Nat × Nat)) (C : Nat × Nat → Prop) (hit : a.eval it = .pointer (some ⟨r, 0, none⟩)) (h : RngP w b r S C)
    (hDone : (∀ p, p ∈ S → C p) → wpList Tryz.prog ops Q rest (a.put o.dst (.tuple #[.bool false])) w)
    (hMore : ∀ p w', p ∈ S → (C p → RngP w' b r S C) → (∀ w0, Ext w0 w → w0.heap.size ≤ r → Ext w0 w') → w'.heap.size = w.heap.size → w'.rangeLeft b r < w.rangeLeft b r → (Instr.entry (.pointer (some ⟨r, 0, none⟩))).run Tryz.prog w' = .ok (.tuple #[pairV p, .bool true]) w' → wpList Tryz.prog ops Q rest (a.put o.dst (.tuple #[.bool true, pairV p, .bool true])) w') : wpList Tryz.prog ops Q (o :: rest) a w := by
  refine wpList_plain hg fun K' hK' => ?_
  obtain ⟨hs, hne, seen, hr, hC⟩ := h
  have hrl : r < w.heap.size := (Array.getElem?_eq_some_iff.1 hr).1
  unfold Oper.wp
  rcases run_next_at (P := Tryz.prog) w o.type r b S.length S.length seen (entP S) S.length hr hs.1 (fun x hx => (born_entP hx).1) (Nat.le_refl _) with ⟨h0, hrun⟩ | ⟨e, he, w1, hw1, hrun⟩
  · have hall : ∀ p, p ∈ S → C p := fun p hp => by
      obtain ⟨i, hi, rfl⟩ := List.mem_iff_getElem.1 hp
      rw [← atP_getElem _ _ hi]
      refine hC i hi ?_
      cases hc : seen.contains i with
      | true => rfl
      | false =>
        have : ({ key := pairV (atP S i), val := .bool true, born := i } : MapEntry) ∈ (leftOf (entP S) seen).toList := by
          unfold leftOf
          rw [Array.toList_filter, List.mem_filter]
          exact ⟨ent_mem hi, by simp only [hc]; rfl⟩
        have h1 : (leftOf (entP S) seen).toList.length = 0 := by rw [Array.length_toList]; exact h0
        rw [List.eq_nil_of_length_eq_zero h1] at this
        cases this
    simp [execOp, hop, hit, hrun, Result.andThen]
    exact hK' _ _ (hDone hall)
  · have hem : e ∈ (entP S).toList := by
      unfold leftOf at he
      rw [Array.toList_filter, List.mem_filter] at he
      exact he.1
    obtain ⟨hb1, hb2⟩ := born_entP hem
    have hX : ∀ w0, Ext w0 w → w0.heap.size ≤ r → Ext w0 (ChangeMaps.setBlock w1 r (.mapIter (some b) S.length (seen.push e.born) S.length)) := fun w0 x hz => by
      have x1 : Ext w0 w1 := by
        rcases hw1 with rfl | rfl
        · exact x
        · exact x.drew
      refine ⟨x1.os, x1.tape, x1.output, by simpa [ChangeMaps.setBlock] using x1.size, fun k hk => ?_⟩
      simp only [ChangeMaps.setBlock, Array.getElem?_setIfInBounds_ne (show r ≠ k by omega)]
      exact x1.block k hk
    have hz1 : w1.heap = w.heap := by rcases hw1 with rfl | rfl <;> rfl
    have hr2 : (ChangeMaps.setBlock w1 r (.mapIter (some b) S.length (seen.push e.born) S.length)).heap[r]? = some (.mapIter (some b) S.length (seen.push e.born) S.length) := by
      simp [ChangeMaps.setBlock, hz1, hrl]
    have hs2 : SetP (ChangeMaps.setBlock w1 r (.mapIter (some b) S.length (seen.push e.born) S.length)) b S := hs.kept (by simp [ChangeMaps.setBlock, hz1, hne])
    have hen := run_entry_at (P := Tryz.prog) _ r b S.length seen (entP S) S.length e hr2 hs2.1 hem (entL_nodup S 0).1
    rw [hb2] at hen
    have hk := hMore (atP S e.born) _ (by rw [atP_getElem _ _ hb1]; exact List.getElem_mem hb1) (fun hc => ⟨hs2, hne, _, hr2, fun i hi hcn => by
      by_cases h : i = e.born
      · subst h; exact hc
      · refine hC i hi ?_
        simpa [Array.mem_push, h] using hcn⟩) hX (by simp [ChangeMaps.setBlock, hz1]) (by rw [RngP.left hs2 hr2, RngP.left hs hr]; exact left_less he) hen
    rw [hb2] at hrun
    simp [execOp, hop, hit, hrun, Result.andThen]
    exact hK' _ _ hk
end Go.Proofs.YtlaamecfknkmlaaGreat
