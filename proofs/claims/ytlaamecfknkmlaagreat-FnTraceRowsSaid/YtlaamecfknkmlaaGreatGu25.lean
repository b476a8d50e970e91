/- Merged texts: contracts and plain lemmas (Yd). -/
import Derived.Test.YtlaamecfknkmlaaGreatGu10
import Derived.Test.YtlaamecfknkmlaaGreatGu13
/- Plain lemmas: lists of lists in memory: the outer slice is the call's own, the rows are only read. No program in sight. -/
namespace Go.Kt
set_option linter.unusedVariables false
open Go.RowKit

/-- The kind of the rows' blocks: their elements' type, and where they do not lie. -/
structure Ek where
  t : Nat
  X : Nat → Prop
abbrev ek (t : Nat) : Ek := ⟨t, fun _ => False⟩
/-- What a slice of ints reads as; its block is one of elements E. -/
def IntsE (w : World) (E : Ek) (a : Option Addr) (l : List Int) : Prop :=
  IntsAt w a l ∧ ∀ b o, 0 < l.length → a = some ⟨b, o, none⟩ → (∃ cs fz, w.heap[b]? = some (.cells cs E.t fz)) ∧ ¬ E.X b
theorem IntsE.ext {w w' : World} {E : Ek} {a : Option Addr} {l : List Int} (h : IntsE w E a l) (e : Ext w w') : IntsE w' E a l := by
  refine ⟨h.1.ext e, fun b o hl ha => ?_⟩
  obtain ⟨⟨cs, fz, hc⟩, hx⟩ := h.2 b o hl ha
  exact ⟨⟨cs, fz, (e.block b (Array.getElem?_eq_some_iff.1 hc).1).trans hc⟩, hx⟩
theorem IntsE.off {w w' : World} {E : Ek} {a : Option Addr} {l : List Int} {row : Option Nat} (h : IntsE w E a l) (hg : w.grownBy w' row) (hne : ∀ b o, 0 < l.length → a = some ⟨b, o, none⟩ → row ≠ some b) : IntsE w' E a l := by
  obtain ⟨⟨b, off, h1, h2⟩, h3⟩ := h
  by_cases hl : 0 < l.length
  · obtain ⟨rfl, hb⟩ := h1 hl
    obtain ⟨⟨cs, fz, hc⟩, hx⟩ := h3 b off hl rfl
    have hk := hg.block b hb (fun e => hne b off hl rfl e.symm)
    refine ⟨⟨b, off, fun _ => ⟨rfl, Nat.lt_of_lt_of_le hb hg.size⟩, fun i hi => (World.cell?_of_block (a := ⟨b, off + i, none⟩) hk).trans (h2 i hi)⟩, fun b' o' _ e => ?_⟩
    obtain ⟨rfl, rfl⟩ : b = b' ∧ off = o' := by simpa using e
    exact ⟨⟨cs, fz, hk.trans hc⟩, hx⟩
  · exact ⟨⟨0, 0, fun h => absurd h hl, fun i hi => absurd hi (by omega)⟩, fun b o h => absurd h hl⟩
/-- Blocks of other elements are written. -/
theorem IntsE.kept {w w' : World} {E : Ek} {ER : Nat} {a : Option Addr} {l : List Int} {row : Option Nat} (h : IntsE w E a l) (hg : w.grownBy w' row) (hr : ∀ k, row = some k → ∃ cs fz, w.heap[k]? = some (.cells cs ER fz)) (hE : E.t ≠ ER) : IntsE w' E a l :=
  h.off hg fun b o hl ha e => by
    obtain ⟨⟨cs, fz, hc⟩, -⟩ := h.2 b o hl ha
    obtain ⟨cs', fz', hc'⟩ := hr b e
    rw [hc] at hc'
    simp at hc'
    exact hE hc'.2.1
/-- A block where no row lies is written. -/
theorem IntsE.keptX {w w' : World} {E : Ek} {a : Option Addr} {l : List Int} {row : Option Nat} (h : IntsE w E a l) (hg : w.grownBy w' row) (hX : ∀ k, row = some k → E.X k) : IntsE w' E a l :=
  h.off hg fun b o hl ha e => (h.2 b o hl ha).2 (hX b e)
theorem IntsE.wk {w : World} {t : Nat} {X X' : Nat → Prop} {a : Option Addr} {l : List Int} (h : IntsE w ⟨t, X⟩ a l) (hX : ∀ k, k < w.heap.size → X' k → X k) : IntsE w ⟨t, X'⟩ a l :=
  ⟨h.1, fun b o hl ha => by
    obtain ⟨⟨cs, fz, hc⟩, hx⟩ := h.2 b o hl ha
    exact ⟨⟨cs, fz, hc⟩, fun k => hx (hX b (Array.getElem?_eq_some_iff.1 hc).1 k)⟩⟩
theorem IntsE.nil (w : World) (E : Ek) (a : Option Addr) : IntsE w E a [] := ⟨⟨0, 0, fun h => absurd h (by simp), fun i hi => absurd hi (by simp)⟩, fun b o h => absurd h (by simp)⟩
theorem OwnI.intsX {w : World} {B E n cap : Nat} {a : Option Addr} {l : List Int} (h : OwnI w B E (.slice a n cap) l) {X : Nat → Prop} (hX : ∀ k, B ≤ k → k < w.heap.size → ¬ X k) : IntsE w ⟨E, X⟩ a l := by
  refine ⟨h.ints, fun b o hl ha => ?_⟩
  rcases h.2 with ⟨hv, h0⟩ | ⟨g, cap', cur, hv, hB, hg, _⟩
  · omega
  · have : a = some ⟨g, 0, none⟩ := by simp at hv; exact hv.1
    rw [this] at ha
    obtain ⟨rfl, rfl⟩ : g = b ∧ 0 = o := by simpa using ha
    exact ⟨⟨cur, (0, 0), hg⟩, hX g hB (Array.getElem?_eq_some_iff.1 hg).1⟩
theorem OwnI.intsE {w : World} {B E n cap : Nat} {a : Option Addr} {l : List Int} (h : OwnI w B E (.slice a n cap) l) : IntsE w (ek E) a l := h.intsX fun _ _ _ => id
/-- The values are slices that read as the rows. -/
def RowsV (w : World) (E : Ek) (vs : List Value) (ll : List (List Int)) : Prop :=
  vs.length = ll.length ∧ ∀ i, i < ll.length → ∃ a c, vs[i]? = some (.slice a (rowI ll i).length c) ∧ (rowI ll i).length ≤ c ∧ IntsE w E a (rowI ll i)
theorem RowsV.ext {w w' : World} {E : Ek} {vs : List Value} {ll : List (List Int)} (h : RowsV w E vs ll) (e : Ext w w') : RowsV w' E vs ll :=
  ⟨h.1, fun i hi => let ⟨a, c, h1, h2, h3⟩ := h.2 i hi; ⟨a, c, h1, h2, h3.ext e⟩⟩
theorem RowsV.kept {w w' : World} {E : Ek} {ER : Nat} {vs : List Value} {ll : List (List Int)} {row : Option Nat} (h : RowsV w E vs ll) (hg : w.grownBy w' row) (hr : ∀ k, row = some k → ∃ cs fz, w.heap[k]? = some (.cells cs ER fz)) (hE : E.t ≠ ER) : RowsV w' E vs ll :=
  ⟨h.1, fun i hi => let ⟨a, c, h1, h2, h3⟩ := h.2 i hi; ⟨a, c, h1, h2, h3.kept hg hr hE⟩⟩
theorem RowsV.keptX {w w' : World} {E : Ek} {vs : List Value} {ll : List (List Int)} {row : Option Nat} (h : RowsV w E vs ll) (hg : w.grownBy w' row) (hX : ∀ k, row = some k → E.X k) : RowsV w' E vs ll :=
  ⟨h.1, fun i hi => let ⟨a, c, h1, h2, h3⟩ := h.2 i hi; ⟨a, c, h1, h2, h3.keptX hg hX⟩⟩
theorem RowsV.wk {w : World} {t : Nat} {X X' : Nat → Prop} {vs : List Value} {ll : List (List Int)} (h : RowsV w ⟨t, X⟩ vs ll) (hX : ∀ k, k < w.heap.size → X' k → X k) : RowsV w ⟨t, X'⟩ vs ll :=
  ⟨h.1, fun i hi => let ⟨a, c, h1, h2, h3⟩ := h.2 i hi; ⟨a, c, h1, h2, h3.wk hX⟩⟩
theorem rowI_left {xs ys : List (List Int)} {i : Nat} (h : i < xs.length) : rowI (xs ++ ys) i = rowI xs i := by
  rw [rowI_getElem _ _ (by rw [List.length_append]; omega), rowI_getElem _ _ h, List.getElem_append_left h]
theorem rowI_right {xs ys : List (List Int)} {i : Nat} (h : i < ys.length) : rowI (xs ++ ys) (xs.length + i) = rowI ys i := by
  rw [rowI_getElem _ _ (by rw [List.length_append]; omega), rowI_getElem _ _ h, List.getElem_append_right (by omega)]
  simp
theorem RowsV.append {w : World} {E : Ek} {vs us : List Value} {ll mm : List (List Int)} (h : RowsV w E vs ll) (k : RowsV w E us mm) : RowsV w E (vs ++ us) (ll ++ mm) := by
  refine ⟨by rw [List.length_append, List.length_append, h.1, k.1], fun i hi => ?_⟩
  rw [List.length_append] at hi
  by_cases hlt : i < ll.length
  · rw [rowI_left hlt, List.getElem?_append_left (by rw [h.1]; exact hlt)]
    exact h.2 i hlt
  · obtain ⟨j, rfl⟩ : ∃ j, i = ll.length + j := ⟨i - ll.length, by omega⟩
    rw [rowI_right (by omega), List.getElem?_append_right (by rw [h.1]; omega), h.1, Nat.add_sub_cancel_left]
    exact k.2 j (by omega)
theorem RowsV.nil (w : World) (E : Ek) : RowsV w E [] [] := ⟨rfl, fun i hi => absurd hi (by simp)⟩
theorem RowsV.one {w : World} {E : Ek} {c : Nat} {a : Option Addr} {l : List Int} (h : IntsE w E a l) (hc : l.length ≤ c) : RowsV w E [.slice a l.length c] [l] := by
  refine ⟨rfl, fun i hi => ?_⟩
  obtain rfl : i = 0 := by simp at hi; omega
  exact ⟨a, c, rfl, hc, h⟩
theorem RowsV.cells1 {w : World} {E : Ek} {vs : List Value} {ll : List (List Int)} (h : RowsV w E vs ll) : ∀ u, u ∈ vs → u.oneCell' = true := fun u hu => by
  obtain ⟨i, hi, he⟩ := List.mem_iff_getElem.1 hu
  obtain ⟨a, c, h1, _⟩ := h.2 i (by rw [← h.1]; exact hi)
  rw [List.getElem?_eq_getElem hi] at h1
  rw [← he, Option.some.inj h1]; rfl
/-- A slice of slices of the call's own, whose rows read as the lists. -/
def OwnLs (w : World) (B : Nat) (E : Ek) (ER : Nat) (v : Value) (ll : List (List Int)) : Prop := ∃ vs, w.ownsRow B ER 1 v ll.length vs ∧ RowsV w E vs ll
theorem OwnLs.ext {w w' : World} {B : Nat} {E : Ek} {ER : Nat} {v : Value} {ll : List (List Int)} (h : OwnLs w B E ER v ll) (e : Ext w w') : OwnLs w' B E ER v ll := by
  obtain ⟨vs, h1, h2⟩ := h
  exact ⟨vs, own_ext h1 e, h2.ext e⟩
theorem OwnLs.mono {w : World} {B B' : Nat} {E : Ek} {ER : Nat} {v : Value} {ll : List (List Int)} (h : OwnLs w B E ER v ll) (hB : B' ≤ B) : OwnLs w B' E ER v ll := by
  obtain ⟨vs, h1, h2⟩ := h
  exact ⟨vs, own_mono h1 hB, h2⟩
theorem OwnLs.nil (w : World) (B : Nat) (E : Ek) (ER : Nat) : OwnLs w B E ER (.slice none 0 0) [] := ⟨[], ⟨rfl, .inl ⟨rfl, rfl⟩⟩, RowsV.nil _ _⟩
theorem OwnLs.typed {w : World} {B : Nat} {E : Ek} {ER : Nat} {v : Value} {ll : List (List Int)} (h : OwnLs w B E ER v ll) : ∀ k, v.ownBlock = some k → ∃ cs fz, w.heap[k]? = some (.cells cs ER fz) := fun k hk => by
  obtain ⟨vs, h1, _⟩ := h
  rcases h1.2 with ⟨rfl, _⟩ | ⟨g, cap, cur, rfl, _, hg, _⟩
  · cases hk
  · obtain rfl : g = k := Option.some.inj hk
    exact ⟨cur, (0, 0), hg⟩
theorem OwnLs.lt {w : World} {B : Nat} {E : Ek} {ER : Nat} {v : Value} {ll : List (List Int)} (h : OwnLs w B E ER v ll) : ∀ k, v.ownBlock = some k → B ≤ k ∧ k < w.heap.size := fun k hk => by
  obtain ⟨vs, h1, _⟩ := h
  exact World.ownsRow.lt h1 k hk
/-- Another slice of slices is written. -/
theorem OwnLs.kept {w w' : World} {B : Nat} {E : Ek} {ER : Nat} {v : Value} {ll : List (List Int)} {row : Option Nat} (h : OwnLs w B E ER v ll) (hg : w.grownBy w' row) (hr : ∀ k, row = some k → ∃ cs fz, w.heap[k]? = some (.cells cs ER fz)) (hE : E.t ≠ ER) (hne : v.ownBlock = none ∨ v.ownBlock ≠ row) : OwnLs w' B E ER v ll := by
  obtain ⟨vs, h1, h2⟩ := h
  exact ⟨vs, World.ownsRow.kept h1 hg hne, h2.kept hg hr hE⟩
theorem OwnLs.keptX {w w' : World} {B : Nat} {E : Ek} {ER : Nat} {v : Value} {ll : List (List Int)} {row : Option Nat} (h : OwnLs w B E ER v ll) (hg : w.grownBy w' row) (hX : ∀ k, row = some k → E.X k) (hne : v.ownBlock = none ∨ v.ownBlock ≠ row) : OwnLs w' B E ER v ll := by
  obtain ⟨vs, h1, h2⟩ := h
  exact ⟨vs, World.ownsRow.kept h1 hg hne, h2.keptX hg hX⟩
theorem OwnLs.wk {w : World} {B : Nat} {t : Nat} {X X' : Nat → Prop} {ER : Nat} {v : Value} {ll : List (List Int)} (h : OwnLs w B ⟨t, X⟩ ER v ll) (hX : ∀ k, k < w.heap.size → X' k → X k) : OwnLs w B ⟨t, X'⟩ ER v ll := by
  obtain ⟨vs, h1, h2⟩ := h
  exact ⟨vs, h1, h2.wk hX⟩
theorem OwnLs.shape {w : World} {B : Nat} {E : Ek} {ER : Nat} {v : Value} {ll : List (List Int)} (h : OwnLs w B E ER v ll) : ∃ a cap, v = .slice a ll.length cap := by
  obtain ⟨vs, h1, _⟩ := h
  exact own_slice h1
/-- The rows, as they are read. -/
theorem OwnLs.row {w : World} {B : Nat} {E : Ek} {ER cap n : Nat} {a : Option Addr} {ll : List (List Int)} (h : OwnLs w B E ER (.slice a n cap) ll) (hl : 0 < ll.length) :
    ∃ g, a = some ⟨g, 0, none⟩ ∧ B ≤ g ∧ g < w.heap.size ∧ (∀ i, w.frozen? ⟨g, i, none⟩ = false) ∧ ∀ i, i < ll.length → ∃ ai ci, w.cell? ⟨g, i, none⟩ = some (.slice ai (rowI ll i).length ci) ∧ (rowI ll i).length ≤ ci ∧ IntsE w E ai (rowI ll i) := by
  obtain ⟨vs, h1, h2⟩ := h
  have h1' := h1
  rcases h1'.2 with ⟨hv, h0⟩ | ⟨g, cap', cur, hv, hB, hg, _⟩
  · omega
  · have ha : a = some ⟨g, 0, none⟩ := by simp at hv; exact hv.1
    subst ha
    have hn : n = ll.length := by simp at hv; exact hv.1
    subst hn
    refine ⟨g, rfl, hB, (Array.getElem?_eq_some_iff.1 hg).1, fun i => World.ownsRow.frozenAt h1 i, fun i hi => ?_⟩
    obtain ⟨ai, ci, k1, k2, k3⟩ := h2.2 i hi
    exact ⟨ai, ci, by rw [World.ownsRow.cellAt h1 i (by omega)]; exact k1, k2, k3⟩
theorem OwnLs.rows {w : World} {B : Nat} {E : Ek} {ER cap n : Nat} {a : Option Addr} {ll : List (List Int)} (h : OwnLs w B E ER (.slice a n cap) ll) : RowsAt w a ll := by
  by_cases hl : 0 < ll.length
  · obtain ⟨g, rfl, _, hg, _, hr⟩ := h.row hl
    refine ⟨g, 0, fun _ => ⟨rfl, hg⟩, fun i hi => ?_⟩
    obtain ⟨ai, ci, h1, _, h2⟩ := hr i hi
    exact ⟨ai, ci, by rw [Nat.zero_add]; exact h1, h2.1⟩
  · exact ⟨0, 0, fun h => absurd h hl, fun i hi => absurd hi (by omega)⟩
theorem OwnLs.len {w : World} {B : Nat} {E : Ek} {ER cap n : Nat} {a : Option Addr} {ll : List (List Int)} (h : OwnLs w B E ER (.slice a n cap) ll) : n = ll.length := by
  obtain ⟨a', cap', hv⟩ := h.shape
  simp at hv; exact hv.2.1
theorem OwnLs.grown {w0 w w' : World} {E : Ek} {ER : Nat} {v : Value} {ll : List (List Int)} (h : OwnLs w w0.heap.size E ER v ll) (hx : Ext w0 w) (hg : w.grownBy w' v.ownBlock) : Ext w0 w' := by
  obtain ⟨vs, h1, _⟩ := h
  exact Ext.row hx hg fun k hk => (World.ownsRow.lt h1 k hk).1
/-- What stands behind the append, where the source's values are slices that read as lists. -/
structure SrcLs (w : World) (E : Ek) (ax : Option Addr) (vs : List Value) (ll : List (List Int)) : Prop where
  rows : RowsV w E vs ll
  at_ : 0 < ll.length → ∃ b off, ax = some ⟨b, off, none⟩ ∧ ∀ j u, vs[j]? = some u → w.cell? ⟨b, off + j, none⟩ = some u
theorem SrcLs.ext {w w' : World} {E : Ek} {ax : Option Addr} {vs : List Value} {ll : List (List Int)} (h : SrcLs w E ax vs ll) (e : Ext w w') : SrcLs w' E ax vs ll := by
  refine ⟨h.rows.ext e, fun hl => ?_⟩
  obtain ⟨b, off, h1, h2⟩ := h.at_ hl
  exact ⟨b, off, h1, fun j u hj => e.cell' (h2 j u hj) (lt_of_cell (h2 j u hj))⟩
theorem OwnLs.src {w : World} {B : Nat} {E : Ek} {ER cap n : Nat} {a : Option Addr} {ll : List (List Int)} (h : OwnLs w B E ER (.slice a n cap) ll) : ∃ vs, SrcLs w E a vs ll := by
  obtain ⟨vs, h1, h2⟩ := h
  refine ⟨vs, h2, fun hl => ?_⟩
  have h1' := h1
  rcases h1'.2 with ⟨hv, h0⟩ | ⟨g, cap', cur, hv, hB, hg, _⟩
  · omega
  · have ha : a = some ⟨g, 0, none⟩ := by simp at hv; exact hv.1
    subst ha
    have hn : n = ll.length := by simp at hv; exact hv.1
    subst hn
    refine ⟨g, 0, rfl, fun j u hj => ?_⟩
    have hjl : j < ll.length := by have := (List.getElem?_eq_some_iff.1 hj).1; have := h2.1; omega
    rw [Nat.zero_add, World.ownsRow.cellAt h1 j (by omega)]; exact hj
/-- One slice in a new block. -/
theorem SrcLs.one {w : World} {E : Ek} {c g : Nat} {a : Option Addr} {l : List Int} (h : IntsE w E a l) (hc : l.length ≤ c) (hg : w.cell? ⟨g, 0, none⟩ = some (.slice a l.length c)) : SrcLs w E (some ⟨g, 0, none⟩) [.slice a l.length c] [l] := by
  refine ⟨RowsV.one h hc, fun _ => ⟨g, 0, rfl, fun j u hj => ?_⟩⟩
  match j, hj with
  | 0, hj => simp at hj; subst hj; exact hg
  | j + 1, hj => simp at hj
/-- append of a slice of slices to one of the call's own. -/
theorem any_append_ls {P : Program} {ops : Array Oper} {rest : List Oper} {o : Oper} {a : Act} {Q : Exit → Act → World → Prop} {w : World} (hw : Region.wanted o (yielded ops a.tmps) = true) (s x : Operand) (t : TypeId)
    (ho : o.op = .call { callee := .builtin .append, args := #[s, x], argTypes := #[t, t] }) (B : Nat) (E : Ek) (ER : Nat) (hE : E.t ≠ ER) (ht : P.underlying t = some (.slice ER))
    (hinfo : (P.info? ER).map (fun i => (i.zero, i.size, i.bytes)) = some (some (.slice none 0 0), 1, 24))
    (v : Value) (ll : List (List Int)) (hs : a.eval s = v) (hown : OwnLs w B E ER v ll) (ax : Option Addr) (m cx : Nat) (vs : List Value) (mm : List (List Int)) (hx : a.eval x = .slice ax m cx) (hm : mm.length = m) (hi : SrcLs w E ax vs mm)
    (hlen : ll.length + m ≤ 1099511627776) (hB : B ≤ w.heap.size)
    (h : ∀ v' w', OwnLs w' B E ER v' (ll ++ mm) → w.grownBy w' v.ownBlock → wpList P ops Q rest (a.put o.dst v') w') : wpList P ops Q (o :: rest) a w := by
  have hty := hown.typed
  obtain ⟨us, h1, h2⟩ := hown
  refine BigFrame.wpList_want hw fun K hK' => wp_append_of s x t ho B ER 1 24 _ ht hinfo rfl (by decide) (by decide) v ll.length us hs h1 ax m cx vs hx (by rw [hi.rows.1, hm]; omega) (fun h0 => hi.at_ (by omega)) hi.rows.cells1 hlen hB
    fun v' w' h3 h4 => hK' _ _ (h v' w' ⟨us ++ vs, ?_, ?_⟩ h4)
  · rw [List.length_append, hm]; exact h3
  · exact (h2.append hi.rows).kept h4 hty hE
theorem astep_append_ls {P : Program} {ops : Array Oper} {o : Oper} {a : Act} {K : Act → World → Prop} {Q : Exit → Act → World → Prop} {X : Prop} {w : World} (hgd : o.guard = none) (s x : Operand) (t : TypeId)
    (ho : o.op = .call { callee := .builtin .append, args := #[s, x], argTypes := #[t, t] }) (B : Nat) (E : Ek) (ER : Nat) (hE : E.t ≠ ER) (ht : P.underlying t = some (.slice ER))
    (hinfo : (P.info? ER).map (fun i => (i.zero, i.size, i.bytes)) = some (some (.slice none 0 0), 1, 24))
    (v : Value) (ll : List (List Int)) (hs : a.eval s = v) (hown : OwnLs w B E ER v ll) (ax : Option Addr) (m cx : Nat) (vs : List Value) (mm : List (List Int)) (hx : a.eval x = .slice ax m cx) (hm : mm.length = m) (hi : SrcLs w E ax vs mm)
    (hlen : ll.length + m ≤ 1099511627776) (hB : B ≤ w.heap.size)
    (h : ∀ v' w', OwnLs w' B E ER v' (ll ++ mm) → w.grownBy w' v.ownBlock → K (a.put o.dst v') w') : if Region.wanted o (yielded ops a.tmps) = true then Oper.wp P o a w K Q else X := by
  have hw : Region.wanted o (yielded ops a.tmps) = true := by simp [Region.wanted, hgd]
  rw [if_pos hw]
  have hty := hown.typed
  obtain ⟨us, h1, h2⟩ := hown
  refine wp_append_of s x t ho B ER 1 24 _ ht hinfo rfl (by decide) (by decide) v ll.length us hs h1 ax m cx vs hx (by rw [hi.rows.1, hm]; omega) (fun h0 => hi.at_ (by omega)) hi.rows.cells1 hlen hB
    fun v' w' h3 h4 => h v' w' ⟨us ++ vs, ?_, ?_⟩ h4
  · rw [List.length_append, hm]; exact h3
  · exact (h2.append hi.rows).kept h4 hty hE
/-- What a call that makes a list of lists comes to. -/
def RetLs (E : Ek) (ER : Nat) (w : World) (ll : List (List Int)) (e : Ending) (w' : World) : Prop := ∃ v, e = .returned v ∧ OwnLs w' w.heap.size E ER v ll ∧ Ext w w'
end Go.Kt
