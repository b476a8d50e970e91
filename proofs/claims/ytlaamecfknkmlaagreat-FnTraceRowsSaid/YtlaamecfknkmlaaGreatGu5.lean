/- Merged texts: contracts and plain lemmas (Flat). -/
import Derived.Test.YtlaamecfknkmlaaGreatGu1
import Derived.BigFrame
/- Plain law: slices of structs of three ints: n of them read as 3 n ints. No program in sight. -/
namespace Go.Kt
set_option linter.unusedVariables false
open Go.RowKit

/-- The slice's n elements read as the numbers of L, three each. -/
def FlatAt (w : World) (a : Option Addr) (n : Nat) (L : List Int) : Prop :=
  L.length = n * 3 ∧ ∃ b off, (0 < n → a = some ⟨b, off, none⟩ ∧ b < w.heap.size) ∧ ∀ j, j < n * 3 → w.cell? ⟨b, off + j, none⟩ = some (.int .i64 (nth L j))
theorem FlatAt.ext {w w' : World} {a : Option Addr} {n : Nat} {L : List Int} (h : FlatAt w a n L) (e : Ext w w') : FlatAt w' a n L := by
  obtain ⟨hl, b, off, h1, h2⟩ := h
  exact ⟨hl, b, off, fun h0 => ⟨(h1 h0).1, Nat.lt_of_lt_of_le (h1 h0).2 e.size⟩, fun j hj => e.cell' (h2 j hj) (h1 (by omega)).2⟩
theorem FlatAt.len {w : World} {a : Option Addr} {n : Nat} {L : List Int} (h : FlatAt w a n L) : L.length = n * 3 := h.1
theorem FlatAt.nil (w : World) (a : Option Addr) : FlatAt w a 0 [] := ⟨rfl, 0, 0, fun h => absurd h (by simp), fun j h => absurd h (by simp)⟩
/-- The three of an element. -/
theorem FlatAt.cells {w : World} {a : Option Addr} {n : Nat} {L : List Int} (h : FlatAt w a n L) (hn : 0 < n) : ∃ b off, a = some ⟨b, off, none⟩ ∧ b < w.heap.size ∧
    ∀ i, i < n → w.cell? ⟨b, off + i * 3, none⟩ = some (.int .i64 (nth L (i * 3))) ∧ w.cell? ⟨b, off + i * 3 + 1, none⟩ = some (.int .i64 (nth L (i * 3 + 1))) ∧ w.cell? ⟨b, off + i * 3 + 2, none⟩ = some (.int .i64 (nth L (i * 3 + 2))) := by
  obtain ⟨hl, b, off, h1, h2⟩ := h
  obtain ⟨rfl, hb⟩ := h1 hn
  refine ⟨b, off, rfl, hb, fun i hi => ⟨h2 _ (by omega), ?_, ?_⟩⟩
  · rw [show off + i * 3 + 1 = off + (i * 3 + 1) by omega]; exact h2 _ (by omega)
  · rw [show off + i * 3 + 2 = off + (i * 3 + 2) by omega]; exact h2 _ (by omega)
/-- A slice of the call's own. -/
def OwnF (w : World) (B E : Nat) (v : Value) (n : Nat) (L : List Int) : Prop := w.ownsRow B E 3 v n (L.map (Value.int .i64))
theorem OwnF.len {w : World} {B E n : Nat} {v : Value} {L : List Int} (h : OwnF w B E v n L) : L.length = n * 3 := by have := h.1; simpa using this
theorem OwnF.row {w : World} {B E n : Nat} {v : Value} {L : List Int} (h : OwnF w B E v n L) (hn : 0 < n) :
    ∃ g cap, v = .slice (some ⟨g, 0, none⟩) n cap ∧ B ≤ g ∧ g < w.heap.size ∧ (∀ j, j < n * 3 → w.cell? ⟨g, j, none⟩ = some (.int .i64 (nth L j))) ∧ ∀ j, w.frozen? ⟨g, j, none⟩ = false := by
  have hl := h.len
  have h' := h
  rcases h'.2 with ⟨_, h0⟩ | ⟨g, cap, cur, rfl, hB, hg, _⟩
  · omega
  · refine ⟨g, cap, rfl, hB, (Array.getElem?_eq_some_iff.1 hg).1, fun j hj => ?_, fun j => World.ownsRow.frozenAt h j⟩
    rw [World.ownsRow.cellAt h j hj, map_get L j (by omega)]
theorem OwnF.shape {w : World} {B E n : Nat} {v : Value} {L : List Int} (h : OwnF w B E v n L) : ∃ a cap, v = .slice a n cap ∧ FlatAt w a n L := by
  have hl := h.len
  by_cases hn : 0 < n
  · obtain ⟨g, cap, rfl, _, hg, hc, _⟩ := h.row hn
    exact ⟨_, cap, rfl, hl, g, 0, fun _ => ⟨rfl, hg⟩, fun j hj => by rw [Nat.zero_add]; exact hc j hj⟩
  · obtain rfl : n = 0 := by omega
    have hL : L = [] := List.eq_nil_of_length_eq_zero (by omega)
    subst hL
    rcases h.2 with ⟨rfl, _⟩ | ⟨g, cap, cur, rfl, _⟩
    · exact ⟨none, 0, rfl, FlatAt.nil _ _⟩
    · exact ⟨_, cap, rfl, FlatAt.nil _ _⟩
theorem OwnF.ext {w w' : World} {B E n : Nat} {v : Value} {L : List Int} (h : OwnF w B E v n L) (e : Ext w w') : OwnF w' B E v n L := own_ext h e
theorem OwnF.mono {w : World} {B B' E n : Nat} {v : Value} {L : List Int} (h : OwnF w B E v n L) (hB : B' ≤ B) : OwnF w B' E v n L := own_mono h hB
theorem OwnF.kept {w w' : World} {B E n : Nat} {v : Value} {L : List Int} {row : Option Nat} (h : OwnF w B E v n L) (hg : w.grownBy w' row) (hne : v.ownBlock = none ∨ v.ownBlock ≠ row) : OwnF w' B E v n L := World.ownsRow.kept h hg hne
theorem OwnF.set {w : World} {B E n g cap : Nat} {L : List Int} (h : OwnF w B E (.slice (some ⟨g, 0, none⟩) n cap) n L) (k : Nat) (u : Int) :
    OwnF (w.setCell ⟨g, k, none⟩ (.int .i64 u)) B E (.slice (some ⟨g, 0, none⟩) n cap) n (L.set k u) ∧ w.grownBy (w.setCell ⟨g, k, none⟩ (.int .i64 u)) (some g) := by
  have := World.ownsRow.stored h k (.int .i64 u)
  unfold OwnF
  rw [List.map_set]
  exact this
theorem OwnF.grown {w0 w w' : World} {E n : Nat} {v : Value} {L : List Int} (h : OwnF w w0.heap.size E v n L) (hx : Ext w0 w) (hg : w.grownBy w' v.ownBlock) : Ext w0 w' :=
  Below.grown hx hg hx.size fun k hk => (World.ownsRow.lt h k hk).1
theorem OwnF.flat {w : World} {B E n cap m : Nat} {a : Option Addr} {L : List Int} (h : OwnF w B E (.slice a m cap) n L) : FlatAt w a n L := by
  obtain ⟨a', cap', hv, hi⟩ := h.shape
  obtain ⟨rfl, _, _⟩ : a = a' ∧ m = n ∧ cap = cap' := by simpa using hv
  exact hi
theorem OwnF.nil (w : World) (B E : Nat) : OwnF w B E (.slice none 0 0) 0 [] := ⟨rfl, .inl ⟨rfl, rfl⟩⟩
theorem OwnF.empty (w : World) (E : Nat) : OwnF (w.alloc (.cells #[] E)) w.heap.size E (.slice (some ⟨w.heap.size, 0, none⟩) 0 0) 0 [] :=
  World.ownsRow_made w #[] 0 (Nat.le_refl _) (by unfold maxLen; omega) rfl
def RetF (E : Nat) (w : World) (n : Nat) (L : List Int) (e : Ending) (w' : World) : Prop := ∃ v, e = .returned v ∧ OwnF w' w.heap.size E v n L ∧ Ext w w'

/-- append of one struct, whether a guard lets it through or there is none. -/
theorem want_append_ins {P : Program} {ops : Array Oper} {rest : List Oper} {o : Oper} {a : Act} {Q : Exit → Act → World → Prop} {w : World} (hw : Region.wanted o (yielded ops a.tmps) = true) (s x : Operand) (t : TypeId)
    (ho : o.op = .call { callee := .builtin .append, args := #[s, x], argTypes := #[t, t] }) (B E : Nat) (ht : P.underlying t = some (.slice E))
    (hinfo : (P.info? E).map (fun i => (i.zero, i.size, i.bytes)) = some (some (.agg #[.int .i64 0, .int .i64 0, .int .i64 0]), 3, 24))
    (v : Value) (n : Nat) (L : List Int) (hs : a.eval s = v) (hown : OwnF w B E v n L) (g : Nat) (u0 u1 u2 : Int) (hx : a.eval x = .slice (some ⟨g, 0, none⟩) 1 1)
    (hc0 : w.cell? ⟨g, 0, none⟩ = some (.int .i64 u0)) (hc1 : w.cell? ⟨g, 1, none⟩ = some (.int .i64 u1)) (hc2 : w.cell? ⟨g, 2, none⟩ = some (.int .i64 u2))
    (hlen : n + 1 ≤ 1099511627776) (hB : B ≤ w.heap.size)
    (h : ∀ v' w', OwnF w' B E v' (n + 1) (L ++ [u0, u1, u2]) → w.grownBy w' v.ownBlock → wpList P ops Q rest (a.put o.dst v') w') : wpList P ops Q (o :: rest) a w := by
  obtain ⟨i, hi, hz0, hz1, hz2⟩ := info_parts hinfo
  refine BigFrame.wpList_want hw fun K hK' => ?_
  refine wp_append_own w s x t ho B E i _ 3 24 ht hi hz0 hz1 hz2 rfl (by decide) v n (L.map (Value.int .i64)) hs hown ⟨g, 0, none⟩ 1 1 [.int .i64 u0, .int .i64 u1, .int .i64 u2] hx rfl ?_ ?_ (by unfold maxLen; omega) (by omega) hB ?_
  · intro j u' hj
    match j, hj with
    | 0, hj => simp at hj; subst hj; simpa [Addr.add] using hc0
    | 1, hj => simp at hj; subst hj; simpa [Addr.add] using hc1
    | 2, hj => simp at hj; subst hj; simpa [Addr.add] using hc2
    | j + 3, hj => simp at hj
  · intro u' hu
    simp at hu
    rcases hu with rfl | rfl | rfl <;> rfl
  · intro v' w' h1 h2 _
    refine hK' _ _ (h v' w' ?_ h2)
    unfold OwnF
    rw [List.map_append]
    exact h1
/-- make([]struct, n). -/
theorem want_make_ins {P : Program} (w : World) {ops : Array Oper} {rest : List Oper} {o : Oper} {a : Act} {Q : Exit → Act → World → Prop} (hw : Region.wanted o (yielded ops a.tmps) = true) (l c : Operand) (t : TypeId) (hop : o.op = Op.makeSlice t l c)
    (B E : Nat) (ht : P.underlying t = some (.slice E)) (hinfo : (P.info? E).map (fun i => (i.zero, i.size, i.bytes)) = some (some (.agg #[.int .i64 0, .int .i64 0, .int .i64 0]), 3, 24)) (kl kc : IntKind) (n : Nat) (hl : a.eval l = .int kl n) (hc : a.eval c = .int kc n)
    (hn : n ≤ 1099511627776) (hB : B ≤ w.heap.size)
    (hK : ∀ w', OwnF w' B E (.slice (some ⟨w.heap.size, 0, none⟩) n n) n (List.replicate (n * 3) 0) → w.grownBy w' none → wpList P ops Q rest (a.put o.dst (.slice (some ⟨w.heap.size, 0, none⟩) n n)) w') :
    wpList P ops Q (o :: rest) a w := by
  obtain ⟨i, hi, hz0, hz1, hz2⟩ := info_parts hinfo
  refine BigFrame.wpList_want hw fun K hK' => ?_
  obtain ⟨w', hrun, r1, r2⟩ := run_make_full (P := P) w B t E i _ 3 ht hi hz0 hz1 kl kc n (by rw [hz2]; omega) (by unfold maxLen; omega) hB
  unfold Oper.wp
  simp [execOp, hop, hl, hc, hrun, Result.andThen]
  refine hK' _ _ (hK w' ?_ r2)
  unfold OwnF
  have e : (madeCells (Value.agg #[.int .i64 0, .int .i64 0, .int .i64 0]).cells (n * 3)).toList = (List.replicate (n * 3) (0 : Int)).map (Value.int .i64) := by
    simp only [madeCells, Value.cells, List.map_replicate]
    apply List.ext_getElem?
    intro i
    by_cases hi : i < n * 3
    · have h3 : i % 3 = 0 ∨ i % 3 = 1 ∨ i % 3 = 2 := by omega
      rcases h3 with h3 | h3 | h3 <;> simp [hi, h3]
    · simp [hi]
  rw [← e]
  exact r1
theorem flat_ext (n : Nat) (L L' : List Int) (h : L.length = n * 3) (h' : L'.length = n * 3) (e : ∀ i, i < n → nth L (i * 3) = nth L' (i * 3) ∧ nth L (i * 3 + 1) = nth L' (i * 3 + 1) ∧ nth L (i * 3 + 2) = nth L' (i * 3 + 2)) : L = L' := by
  apply ext_nth _ _ (by omega)
  intro j hj
  obtain ⟨h0, h1, h2⟩ := e (j / 3) (by omega)
  have h3 : j = j / 3 * 3 ∨ j = j / 3 * 3 + 1 ∨ j = j / 3 * 3 + 2 := by omega
  rcases h3 with h3 | h3 | h3
  · rw [h3]; exact h0
  · rw [h3]; exact h1
  · rw [h3]; exact h2
end Go.Kt
