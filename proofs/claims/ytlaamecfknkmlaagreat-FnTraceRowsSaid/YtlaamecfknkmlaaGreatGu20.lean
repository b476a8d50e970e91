/- Merged texts: contracts and plain lemmas (Rows4). -/
import Derived.Test.YtlaamecfknkmlaaGreatGu14
/- Plain law: a row of slices of slices of the call's own is written, or exchanged. No program in sight. -/
namespace Go.Kt
set_option linter.unusedVariables false
open Go.RowKit

theorem rowI_set (ll : List (List Int)) (t : Nat) (r : List Int) (i : Nat) (h : i < ll.length) : rowI (ll.set t r) i = if i = t then r else rowI ll i := by
  rw [rowI_getElem _ _ (by simpa using h), List.getElem_set, rowI_getElem _ _ h]
  by_cases e : t = i
  · subst e; simp
  · rw [if_neg e, if_neg (fun k => e k.symm)]
/-- A row is written. -/
theorem OwnR.put {w w' : World} {B T E ER cap t g : Nat} {ll : List (List Int)} {r : List Int} {ai : Option Addr} {ci : Nat} (ht : t < ll.length)
    (h : OwnR w B T E ER (.slice (some ⟨g, 0, none⟩) ll.length cap) ll) (hc : w.cell? ⟨g, t, none⟩ = some (.slice ai (rowI ll t).length ci)) (hr : r.length = (rowI ll t).length)
    (ho : OwnI w' B E (.slice ai (rowI ll t).length ci) r) (hg : w.grownBy w' (Value.slice ai (rowI ll t).length ci).ownBlock) :
    OwnR w' B T E ER (.slice (some ⟨g, 0, none⟩) ll.length cap) (ll.set t r) ∧ Touched w w' B T := by
  obtain ⟨vs, h1, h2, h3, h4⟩ := OwnRk.outer h
  have hvt : vs[t]? = some (.slice ai (rowI ll t).length ci) := by rw [← World.ownsRow.cellAt h1 t (by omega)]; exact hc
  have hrow : (Value.slice ai (rowI ll t).length ci).ownBlock = none ∨ (Value.slice ai (rowI ll t).length ci).ownBlock ≠ some g := by
    obtain ⟨a', c', e1, e2, e3, e4⟩ := h3 t ht
    rw [hvt] at e1
    have e1' := Option.some.inj e1
    rw [← e1'] at e4
    exact e4
  have hlt : ∀ g', (Value.slice ai (rowI ll t).length ci).ownBlock = some g' → B ≤ g' ∧ g' < T := by
    obtain ⟨a', c', e1, e2, e3, e4⟩ := h3 t ht
    rw [hvt] at e1
    have e1' := Option.some.inj e1
    rw [← e1'] at e3 e2
    exact fun g' hg' => ⟨(World.ownsRow.lt e2 g' hg').1, e3 g' hg'⟩
  have hsg : (Value.slice (some ⟨g, 0, none⟩) ll.length cap).ownBlock = none ∨ (Value.slice (some ⟨g, 0, none⟩) ll.length cap).ownBlock ≠ (Value.slice ai (rowI ll t).length ci).ownBlock := by
    rcases hrow with hr | hr
    · right; rw [hr]; simp [Value.ownBlock]
    · right; exact fun e => hr e.symm
  have hlen : ∀ i, i < ll.length → (rowI (ll.set t r) i).length = (rowI ll i).length := fun i hi => by
    rw [rowI_set ll t r i hi]; split
    · rename_i e; rw [e]; exact hr
    · rfl
  refine ⟨?_, Touched.of_grown hg hlt⟩
  unfold OwnR
  rw [List.length_set]
  refine ⟨OwnRk.base h, Nat.le_trans (OwnRk.top h) hg.size, vs, World.ownsRow.kept h1 hg hsg, h2, fun i hi => ?_, fun i j x y hi hj => h4 i j x y hi hj⟩
  obtain ⟨a', c', e1, e2, e3, e4⟩ := h3 i hi
  rw [hlen i hi]
  refine ⟨a', c', e1, ?_, e3, e4⟩
  rw [rowI_set ll t r i hi]
  by_cases hit : i = t
  · subst hit
    rw [hvt] at e1
    have e1' := Option.some.inj e1
    rw [← e1', if_pos rfl]
    exact ho
  · rw [if_neg hit]
    exact World.ownsRow.kept e2 hg (h4 i t _ _ hi ht hit e1 hvt)
/-- What a slice, and slices of slices, read as; all of it lies from block B on. -/
def IntsFrom (w : World) (B : Nat) (a : Option Addr) (l : List Int) : Prop :=
  ∃ b off, (0 < l.length → a = some ⟨b, off, none⟩ ∧ B ≤ b ∧ b < w.heap.size) ∧ ∀ i, i < l.length → w.cell? ⟨b, off + i, none⟩ = some (.int .i64 (nth l i))
def RowsFrom (w : World) (B : Nat) (a : Option Addr) (ll : List (List Int)) : Prop :=
  ∃ b off, (0 < ll.length → a = some ⟨b, off, none⟩ ∧ B ≤ b ∧ b < w.heap.size) ∧
    ∀ i, i < ll.length → ∃ ai ci, w.cell? ⟨b, off + i, none⟩ = some (.slice ai (rowI ll i).length ci) ∧ IntsFrom w B ai (rowI ll i)
theorem IntsFrom.ints {w : World} {B : Nat} {a : Option Addr} {l : List Int} (h : IntsFrom w B a l) : IntsAt w a l := by
  obtain ⟨b, off, h1, h2⟩ := h
  exact ⟨b, off, fun h0 => ⟨(h1 h0).1, (h1 h0).2.2⟩, h2⟩
theorem RowsFrom.rows {w : World} {B : Nat} {a : Option Addr} {ll : List (List Int)} (h : RowsFrom w B a ll) : RowsAt w a ll := by
  obtain ⟨b, off, h1, h2⟩ := h
  refine ⟨b, off, fun h0 => ⟨(h1 h0).1, (h1 h0).2.2⟩, fun i hi => ?_⟩
  obtain ⟨ai, ci, e1, e2⟩ := h2 i hi
  exact ⟨ai, ci, e1, e2.ints⟩
theorem IntsFrom.untouched {w w' : World} {B X T : Nat} {a : Option Addr} {l : List Int} (h : IntsFrom w B a l) (t : Touched w w' X T) (hT : T ≤ B) : IntsFrom w' B a l := by
  obtain ⟨b, off, h1, h2⟩ := h
  refine ⟨b, off, fun h0 => ⟨(h1 h0).1, (h1 h0).2.1, Nat.lt_of_lt_of_le (h1 h0).2.2 t.size⟩, fun i hi => ?_⟩
  obtain ⟨-, hb, hs⟩ := h1 (by omega)
  exact (World.cell?_of_block (a := ⟨b, off + i, none⟩) (t.block b hs (.inr (by omega)))).trans (h2 i hi)
theorem RowsFrom.untouched {w w' : World} {B X T : Nat} {a : Option Addr} {ll : List (List Int)} (h : RowsFrom w B a ll) (t : Touched w w' X T) (hT : T ≤ B) : RowsFrom w' B a ll := by
  obtain ⟨b, off, h1, h2⟩ := h
  refine ⟨b, off, fun h0 => ⟨(h1 h0).1, (h1 h0).2.1, Nat.lt_of_lt_of_le (h1 h0).2.2 t.size⟩, fun i hi => ?_⟩
  obtain ⟨-, hb, hs⟩ := h1 (by omega)
  obtain ⟨ai, ci, e1, e2⟩ := h2 i hi
  exact ⟨ai, ci, (World.cell?_of_block (a := ⟨b, off + i, none⟩) (t.block b hs (.inr (by omega)))).trans e1, e2.untouched t hT⟩
theorem RowsFrom.ext {w w' : World} {B : Nat} {a : Option Addr} {ll : List (List Int)} (h : RowsFrom w B a ll) (e : Ext w w') : RowsFrom w' B a ll := h.untouched (Touched.of_ext (B := 0) (T := 0) e) (Nat.zero_le _)
theorem RowsFrom.mono {w : World} {B B' : Nat} {a : Option Addr} {ll : List (List Int)} (h : RowsFrom w B a ll) (hB : B' ≤ B) : RowsFrom w B' a ll := by
  obtain ⟨b, off, h1, h2⟩ := h
  refine ⟨b, off, fun h0 => ⟨(h1 h0).1, by have := (h1 h0).2.1; omega, (h1 h0).2.2⟩, fun i hi => ?_⟩
  obtain ⟨ai, ci, e1, b', off', k1, k2⟩ := h2 i hi
  exact ⟨ai, ci, e1, b', off', fun h0 => ⟨(k1 h0).1, by have := (k1 h0).2.1; omega, (k1 h0).2.2⟩, k2⟩
theorem RowsFrom.nil (w : World) (B : Nat) (a : Option Addr) : RowsFrom w B a [] := ⟨0, 0, fun h => absurd h (by simp), fun i h => absurd h (by simp)⟩
theorem OwnI.intsFrom {w : World} {B E n cap : Nat} {a : Option Addr} {l : List Int} (h : OwnI w B E (.slice a n cap) l) : IntsFrom w B a l := by
  by_cases hl : 0 < l.length
  · obtain ⟨g, cap', hv, hB, hg, hc, _⟩ := h.row hl
    have : a = some ⟨g, 0, none⟩ ∧ n = l.length ∧ cap = cap' := by simpa using hv
    obtain ⟨rfl, _, _⟩ := this
    exact ⟨g, 0, fun _ => ⟨rfl, hB, hg⟩, fun i hi => by rw [Nat.zero_add]; exact hc i hi⟩
  · exact ⟨0, 0, fun h0 => absurd h0 hl, fun i hi => absurd hi (by omega)⟩
theorem OwnR.rowsFrom {w : World} {B T E ER n cap : Nat} {a : Option Addr} {ll : List (List Int)} (h : OwnR w B T E ER (.slice a n cap) ll) : RowsFrom w B a ll := by
  obtain ⟨a', c', hv⟩ := h.shape
  obtain ⟨rfl, rfl, rfl⟩ : a = a' ∧ n = ll.length ∧ cap = c' := by simpa using hv
  by_cases hl : 0 < ll.length
  · obtain ⟨g, rfl, hB, _, hg, _, _, hr⟩ := OwnRk.row h (Nat.le_refl _) hl
    refine ⟨g, 0, fun _ => ⟨rfl, hB, hg⟩, fun i hi => ?_⟩
    obtain ⟨ai, ci, g1, g2⟩ := hr i hi
    exact ⟨ai, ci, by rw [Nat.zero_add]; exact g1, g2.intsFrom⟩
  · exact ⟨0, 0, fun h0 => absurd h0 hl, fun i hi => absurd hi (by omega)⟩
/-- A row is exchanged for one that lies elsewhere: what it all reads as. -/
theorem OwnR.exchange {w : World} {B T E ER cap t g : Nat} {ll : List (List Int)} {r : List Int} {ar : Option Addr} {cr : Nat} (ht : t < ll.length)
    (h : OwnR w B T E ER (.slice (some ⟨g, 0, none⟩) ll.length cap) ll) (hr : OwnI w T E (.slice ar r.length cr) r) :
    RowsFrom (w.setCell ⟨g, t, none⟩ (.slice ar r.length cr)) B (some ⟨g, 0, none⟩) (ll.set t r) := by
  have hBT := OwnRk.base h
  obtain ⟨vs, h1, h2, h3, h4⟩ := OwnRk.outer h
  have hgT : g < T := h2 g rfl
  have hgs := World.ownsRow.lt h1 g rfl
  refine ⟨g, 0, fun _ => ⟨rfl, hgs.1, by simpa using hgs.2⟩, fun i hi => ?_⟩
  rw [List.length_set] at hi
  rw [rowI_set ll t r i hi, Nat.zero_add]
  by_cases hit : i = t
  · subst hit
    rw [if_pos rfl]
    refine ⟨ar, cr, ?_, OwnI.intsFrom (own_set_other (own_mono hr hBT) ⟨g, i, none⟩ _ fun e => ?_)⟩
    · have hc : w.cell? ⟨g, i, none⟩ = vs[i]? := World.ownsRow.cellAt h1 i (by omega)
      obtain ⟨ai, ci, e1, _⟩ := h3 i hi
      rw [e1] at hc
      simp [go_sem, hc]
    · have := (World.ownsRow.lt hr g e).1
      omega
  · rw [if_neg hit]
    obtain ⟨ai, ci, e1, e2, e3, e4⟩ := h3 i hi
    have hc : w.cell? ⟨g, i, none⟩ = vs[i]? := World.ownsRow.cellAt h1 i (by omega)
    rw [e1] at hc
    refine ⟨ai, ci, ?_, OwnI.intsFrom (own_set_other e2 ⟨g, t, none⟩ _ fun e => ?_)⟩
    · simp [go_sem, hc]
      try exact fun e => absurd e.symm hit
    · rcases e4 with e4 | e4
      · rw [e4] at e; cases e
      · exact e4 e
theorem RowsFrom.tail {w : World} {B g o : Nat} {ll : List (List Int)} (h : RowsFrom w B (some ⟨g, o, none⟩) ll) : RowsFrom w B (some ⟨g, o + 1, none⟩) (ll.drop 1) := by
  obtain ⟨b, off, h1, h2⟩ := h
  by_cases hl : 0 < ll.length
  · obtain ⟨he, hb⟩ := h1 hl
    obtain ⟨rfl, rfl⟩ : g = b ∧ o = off := by simpa using he
    refine ⟨g, o + 1, fun _ => ⟨rfl, hb⟩, fun i hi => ?_⟩
    have hi2 : i + 1 < ll.length := by simp at hi; omega
    obtain ⟨ai, ci, e1, e2⟩ := h2 (i + 1) hi2
    have e : rowI (ll.drop 1) i = rowI ll (i + 1) := by
      rw [rowI_getElem _ _ hi, rowI_getElem _ _ hi2]; simp
    rw [e]
    exact ⟨ai, ci, by rw [show o + 1 + i = o + (i + 1) by omega]; exact e1, e2⟩
  · exact ⟨0, 0, fun h0 => absurd h0 (by simp; omega), fun i hi => absurd hi (by simp; omega)⟩
theorem Touched.high {w wX w' : World} {X Y B T : Nat} (t : Touched w wX X Y) (t2 : Touched wX w' B T) (hB : w.heap.size ≤ B) : Touched w w' X Y :=
  ⟨t2.os.trans t.os, t2.tape.trans t.tape, t2.output.trans t.output, Nat.le_trans t.size t2.size, fun k hk ho => (t2.block k (Nat.lt_of_lt_of_le hk t.size) (.inl (by omega))).trans (t.block k hk ho)⟩
end Go.Kt
