/- Merged texts: contracts and plain lemmas (Yd, Nq, Bd, Pa, Nr, Yf, Ye). -/
import Derived.Test.YtlaamecfknkmlaaGreatGt1
import Derived.Test.YtlaamecfknkmlaaGreatGt2
import Derived.WalkKit
import Derived.RegionTactic
namespace Go.Kt
set_option linter.unusedVariables false
open Go.RowKit

/-- The kind of the rows' blocks: their elements' type, and where they do not lie. -/
structure Ek where
  t : Nat
  X : Nat → Prop
abbrev ek (t : Nat) : Ek := ⟨t, fun _ => False⟩
/-- What a slice of ints reads as; its block is one of elements E. -/
def IntsE (w : World) (E : Ek) (a : Option Addr) (l : List Int) : Prop :=
  IntsAt w a l ∧ ∀ b o, 0 < l.length → a = some ⟨b, o, none⟩ → (∃ cs fz, w.heap[b]? = some (.cells cs E.t fz)) ∧ ¬ E.X b
theorem IntsE.ext {w w' : World} {E : Ek} {a : Option Addr} {l : List Int} (h : IntsE w E a l) (e : Ext w w') : IntsE w' E a l := by
  refine ⟨h.1.ext e, fun b o hl ha => ?_⟩
  obtain ⟨⟨cs, fz, hc⟩, hx⟩ := h.2 b o hl ha
  exact ⟨⟨cs, fz, (e.block b (Array.getElem?_eq_some_iff.1 hc).1).trans hc⟩, hx⟩
theorem IntsE.off {w w' : World} {E : Ek} {a : Option Addr} {l : List Int} {row : Option Nat} (h : IntsE w E a l) (hg : w.grownBy w' row) (hne : ∀ b o, 0 < l.length → a = some ⟨b, o, none⟩ → row ≠ some b) : IntsE w' E a l := by
  obtain ⟨⟨b, off, h1, h2⟩, h3⟩ := h
  by_cases hl : 0 < l.length
  · obtain ⟨rfl, hb⟩ := h1 hl
    obtain ⟨⟨cs, fz, hc⟩, hx⟩ := h3 b off hl rfl
    have hk := hg.block b hb (fun e => hne b off hl rfl e.symm)
    refine ⟨⟨b, off, fun _ => ⟨rfl, Nat.lt_of_lt_of_le hb hg.size⟩, fun i hi => (World.cell?_of_block (a := ⟨b, off + i, none⟩) hk).trans (h2 i hi)⟩, fun b' o' _ e => ?_⟩
    obtain ⟨rfl, rfl⟩ : b = b' ∧ off = o' := by simpa using e
    exact ⟨⟨cs, fz, hk.trans hc⟩, hx⟩
  · exact ⟨⟨0, 0, fun h => absurd h hl, fun i hi => absurd hi (by omega)⟩, fun b o h => absurd h hl⟩
/-- Blocks of other elements are written. -/
theorem IntsE.kept {w w' : World} {E : Ek} {ER : Nat} {a : Option Addr} {l : List Int} {row : Option Nat} (h : IntsE w E a l) (hg : w.grownBy w' row) (hr : ∀ k, row = some k → ∃ cs fz, w.heap[k]? = some (.cells cs ER fz)) (hE : E.t ≠ ER) : IntsE w' E a l :=
  h.off hg fun b o hl ha e => by
    obtain ⟨⟨cs, fz, hc⟩, -⟩ := h.2 b o hl ha
    obtain ⟨cs', fz', hc'⟩ := hr b e
    rw [hc] at hc'
    simp at hc'
    exact hE hc'.2.1
/-- A block where no row lies is written. -/
theorem IntsE.keptX {w w' : World} {E : Ek} {a : Option Addr} {l : List Int} {row : Option Nat} (h : IntsE w E a l) (hg : w.grownBy w' row) (hX : ∀ k, row = some k → E.X k) : IntsE w' E a l :=
  h.off hg fun b o hl ha e => (h.2 b o hl ha).2 (hX b e)
theorem IntsE.wk {w : World} {t : Nat} {X X' : Nat → Prop} {a : Option Addr} {l : List Int} (h : IntsE w ⟨t, X⟩ a l) (hX : ∀ k, k < w.heap.size → X' k → X k) : IntsE w ⟨t, X'⟩ a l :=
  ⟨h.1, fun b o hl ha => by
    obtain ⟨⟨cs, fz, hc⟩, hx⟩ := h.2 b o hl ha
    exact ⟨⟨cs, fz, hc⟩, fun k => hx (hX b (Array.getElem?_eq_some_iff.1 hc).1 k)⟩⟩
theorem IntsE.nil (w : World) (E : Ek) (a : Option Addr) : IntsE w E a [] := ⟨⟨0, 0, fun h => absurd h (by simp), fun i hi => absurd hi (by simp)⟩, fun b o h => absurd h (by simp)⟩
theorem OwnI.intsX {w : World} {B E n cap : Nat} {a : Option Addr} {l : List Int} (h : OwnI w B E (.slice a n cap) l) {X : Nat → Prop} (hX : ∀ k, B ≤ k → k < w.heap.size → ¬ X k) : IntsE w ⟨E, X⟩ a l := by
  refine ⟨h.ints, fun b o hl ha => ?_⟩
  rcases h.2 with ⟨hv, h0⟩ | ⟨g, cap', cur, hv, hB, hg, _⟩
  · omega
  · have : a = some ⟨g, 0, none⟩ := by simp at hv; exact hv.1
    rw [this] at ha
    obtain ⟨rfl, rfl⟩ : g = b ∧ 0 = o := by simpa using ha
    exact ⟨⟨cur, (0, 0), hg⟩, hX g hB (Array.getElem?_eq_some_iff.1 hg).1⟩
theorem OwnI.intsE {w : World} {B E n cap : Nat} {a : Option Addr} {l : List Int} (h : OwnI w B E (.slice a n cap) l) : IntsE w (ek E) a l := h.intsX fun _ _ _ => id
/-- The values are slices that read as the rows. -/
def RowsV (w : World) (E : Ek) (vs : List Value) (ll : List (List Int)) : Prop :=
  vs.length = ll.length ∧ ∀ i, i < ll.length → ∃ a c, vs[i]? = some (.slice a (rowI ll i).length c) ∧ (rowI ll i).length ≤ c ∧ IntsE w E a (rowI ll i)
theorem RowsV.ext {w w' : World} {E : Ek} {vs : List Value} {ll : List (List Int)} (h : RowsV w E vs ll) (e : Ext w w') : RowsV w' E vs ll :=
  ⟨h.1, fun i hi => let ⟨a, c, h1, h2, h3⟩ := h.2 i hi; ⟨a, c, h1, h2, h3.ext e⟩⟩
theorem RowsV.kept {w w' : World} {E : Ek} {ER : Nat} {vs : List Value} {ll : List (List Int)} {row : Option Nat} (h : RowsV w E vs ll) (hg : w.grownBy w' row) (hr : ∀ k, row = some k → ∃ cs fz, w.heap[k]? = some (.cells cs ER fz)) (hE : E.t ≠ ER) : RowsV w' E vs ll :=
  ⟨h.1, fun i hi => let ⟨a, c, h1, h2, h3⟩ := h.2 i hi; ⟨a, c, h1, h2, h3.kept hg hr hE⟩⟩
theorem RowsV.keptX {w w' : World} {E : Ek} {vs : List Value} {ll : List (List Int)} {row : Option Nat} (h : RowsV w E vs ll) (hg : w.grownBy w' row) (hX : ∀ k, row = some k → E.X k) : RowsV w' E vs ll :=
  ⟨h.1, fun i hi => let ⟨a, c, h1, h2, h3⟩ := h.2 i hi; ⟨a, c, h1, h2, h3.keptX hg hX⟩⟩
theorem RowsV.wk {w : World} {t : Nat} {X X' : Nat → Prop} {vs : List Value} {ll : List (List Int)} (h : RowsV w ⟨t, X⟩ vs ll) (hX : ∀ k, k < w.heap.size → X' k → X k) : RowsV w ⟨t, X'⟩ vs ll :=
  ⟨h.1, fun i hi => let ⟨a, c, h1, h2, h3⟩ := h.2 i hi; ⟨a, c, h1, h2, h3.wk hX⟩⟩
theorem rowI_left {xs ys : List (List Int)} {i : Nat} (h : i < xs.length) : rowI (xs ++ ys) i = rowI xs i := by
  rw [rowI_getElem _ _ (by rw [List.length_append]; omega), rowI_getElem _ _ h, List.getElem_append_left h]
theorem rowI_right {xs ys : List (List Int)} {i : Nat} (h : i < ys.length) : rowI (xs ++ ys) (xs.length + i) = rowI ys i := by
  rw [rowI_getElem _ _ (by rw [List.length_append]; omega), rowI_getElem _ _ h, List.getElem_append_right (by omega)]
  simp
theorem RowsV.append {w : World} {E : Ek} {vs us : List Value} {ll mm : List (List Int)} (h : RowsV w E vs ll) (k : RowsV w E us mm) : RowsV w E (vs ++ us) (ll ++ mm) := by
  refine ⟨by rw [List.length_append, List.length_append, h.1, k.1], fun i hi => ?_⟩
  rw [List.length_append] at hi
  by_cases hlt : i < ll.length
  · rw [rowI_left hlt, List.getElem?_append_left (by rw [h.1]; exact hlt)]
    exact h.2 i hlt
  · obtain ⟨j, rfl⟩ : ∃ j, i = ll.length + j := ⟨i - ll.length, by omega⟩
    rw [rowI_right (by omega), List.getElem?_append_right (by rw [h.1]; omega), h.1, Nat.add_sub_cancel_left]
    exact k.2 j (by omega)
theorem RowsV.nil (w : World) (E : Ek) : RowsV w E [] [] := ⟨rfl, fun i hi => absurd hi (by simp)⟩
theorem RowsV.one {w : World} {E : Ek} {c : Nat} {a : Option Addr} {l : List Int} (h : IntsE w E a l) (hc : l.length ≤ c) : RowsV w E [.slice a l.length c] [l] := by
  refine ⟨rfl, fun i hi => ?_⟩
  obtain rfl : i = 0 := by simp at hi; omega
  exact ⟨a, c, rfl, hc, h⟩
theorem RowsV.cells1 {w : World} {E : Ek} {vs : List Value} {ll : List (List Int)} (h : RowsV w E vs ll) : ∀ u, u ∈ vs → u.oneCell' = true := fun u hu => by
  obtain ⟨i, hi, he⟩ := List.mem_iff_getElem.1 hu
  obtain ⟨a, c, h1, _⟩ := h.2 i (by rw [← h.1]; exact hi)
  rw [List.getElem?_eq_getElem hi] at h1
  rw [← he, Option.some.inj h1]; rfl
/-- A slice of slices of the call's own, whose rows read as the lists. -/
def OwnLs (w : World) (B : Nat) (E : Ek) (ER : Nat) (v : Value) (ll : List (List Int)) : Prop := ∃ vs, w.ownsRow B ER 1 v ll.length vs ∧ RowsV w E vs ll
theorem OwnLs.ext {w w' : World} {B : Nat} {E : Ek} {ER : Nat} {v : Value} {ll : List (List Int)} (h : OwnLs w B E ER v ll) (e : Ext w w') : OwnLs w' B E ER v ll := by
  obtain ⟨vs, h1, h2⟩ := h
  exact ⟨vs, own_ext h1 e, h2.ext e⟩
theorem OwnLs.mono {w : World} {B B' : Nat} {E : Ek} {ER : Nat} {v : Value} {ll : List (List Int)} (h : OwnLs w B E ER v ll) (hB : B' ≤ B) : OwnLs w B' E ER v ll := by
  obtain ⟨vs, h1, h2⟩ := h
  exact ⟨vs, own_mono h1 hB, h2⟩
theorem OwnLs.nil (w : World) (B : Nat) (E : Ek) (ER : Nat) : OwnLs w B E ER (.slice none 0 0) [] := ⟨[], ⟨rfl, .inl ⟨rfl, rfl⟩⟩, RowsV.nil _ _⟩
theorem OwnLs.typed {w : World} {B : Nat} {E : Ek} {ER : Nat} {v : Value} {ll : List (List Int)} (h : OwnLs w B E ER v ll) : ∀ k, v.ownBlock = some k → ∃ cs fz, w.heap[k]? = some (.cells cs ER fz) := fun k hk => by
  obtain ⟨vs, h1, _⟩ := h
  rcases h1.2 with ⟨rfl, _⟩ | ⟨g, cap, cur, rfl, _, hg, _⟩
  · cases hk
  · obtain rfl : g = k := Option.some.inj hk
    exact ⟨cur, (0, 0), hg⟩
theorem OwnLs.lt {w : World} {B : Nat} {E : Ek} {ER : Nat} {v : Value} {ll : List (List Int)} (h : OwnLs w B E ER v ll) : ∀ k, v.ownBlock = some k → B ≤ k ∧ k < w.heap.size := fun k hk => by
  obtain ⟨vs, h1, _⟩ := h
  exact World.ownsRow.lt h1 k hk
/-- Another slice of slices is written. -/
theorem OwnLs.kept {w w' : World} {B : Nat} {E : Ek} {ER : Nat} {v : Value} {ll : List (List Int)} {row : Option Nat} (h : OwnLs w B E ER v ll) (hg : w.grownBy w' row) (hr : ∀ k, row = some k → ∃ cs fz, w.heap[k]? = some (.cells cs ER fz)) (hE : E.t ≠ ER) (hne : v.ownBlock = none ∨ v.ownBlock ≠ row) : OwnLs w' B E ER v ll := by
  obtain ⟨vs, h1, h2⟩ := h
  exact ⟨vs, World.ownsRow.kept h1 hg hne, h2.kept hg hr hE⟩
theorem OwnLs.keptX {w w' : World} {B : Nat} {E : Ek} {ER : Nat} {v : Value} {ll : List (List Int)} {row : Option Nat} (h : OwnLs w B E ER v ll) (hg : w.grownBy w' row) (hX : ∀ k, row = some k → E.X k) (hne : v.ownBlock = none ∨ v.ownBlock ≠ row) : OwnLs w' B E ER v ll := by
  obtain ⟨vs, h1, h2⟩ := h
  exact ⟨vs, World.ownsRow.kept h1 hg hne, h2.keptX hg hX⟩
theorem OwnLs.wk {w : World} {B : Nat} {t : Nat} {X X' : Nat → Prop} {ER : Nat} {v : Value} {ll : List (List Int)} (h : OwnLs w B ⟨t, X⟩ ER v ll) (hX : ∀ k, k < w.heap.size → X' k → X k) : OwnLs w B ⟨t, X'⟩ ER v ll := by
  obtain ⟨vs, h1, h2⟩ := h
  exact ⟨vs, h1, h2.wk hX⟩
theorem OwnLs.shape {w : World} {B : Nat} {E : Ek} {ER : Nat} {v : Value} {ll : List (List Int)} (h : OwnLs w B E ER v ll) : ∃ a cap, v = .slice a ll.length cap := by
  obtain ⟨vs, h1, _⟩ := h
  exact own_slice h1
/-- The rows, as they are read. -/
theorem OwnLs.row {w : World} {B : Nat} {E : Ek} {ER cap n : Nat} {a : Option Addr} {ll : List (List Int)} (h : OwnLs w B E ER (.slice a n cap) ll) (hl : 0 < ll.length) :
    ∃ g, a = some ⟨g, 0, none⟩ ∧ B ≤ g ∧ g < w.heap.size ∧ (∀ i, w.frozen? ⟨g, i, none⟩ = false) ∧ ∀ i, i < ll.length → ∃ ai ci, w.cell? ⟨g, i, none⟩ = some (.slice ai (rowI ll i).length ci) ∧ (rowI ll i).length ≤ ci ∧ IntsE w E ai (rowI ll i) := by
  obtain ⟨vs, h1, h2⟩ := h
  have h1' := h1
  rcases h1'.2 with ⟨hv, h0⟩ | ⟨g, cap', cur, hv, hB, hg, _⟩
  · omega
  · have ha : a = some ⟨g, 0, none⟩ := by simp at hv; exact hv.1
    subst ha
    have hn : n = ll.length := by simp at hv; exact hv.1
    subst hn
    refine ⟨g, rfl, hB, (Array.getElem?_eq_some_iff.1 hg).1, fun i => World.ownsRow.frozenAt h1 i, fun i hi => ?_⟩
    obtain ⟨ai, ci, k1, k2, k3⟩ := h2.2 i hi
    exact ⟨ai, ci, by rw [World.ownsRow.cellAt h1 i (by omega)]; exact k1, k2, k3⟩
theorem OwnLs.rows {w : World} {B : Nat} {E : Ek} {ER cap n : Nat} {a : Option Addr} {ll : List (List Int)} (h : OwnLs w B E ER (.slice a n cap) ll) : RowsAt w a ll := by
  by_cases hl : 0 < ll.length
  · obtain ⟨g, rfl, _, hg, _, hr⟩ := h.row hl
    refine ⟨g, 0, fun _ => ⟨rfl, hg⟩, fun i hi => ?_⟩
    obtain ⟨ai, ci, h1, _, h2⟩ := hr i hi
    exact ⟨ai, ci, by rw [Nat.zero_add]; exact h1, h2.1⟩
  · exact ⟨0, 0, fun h => absurd h hl, fun i hi => absurd hi (by omega)⟩
theorem OwnLs.len {w : World} {B : Nat} {E : Ek} {ER cap n : Nat} {a : Option Addr} {ll : List (List Int)} (h : OwnLs w B E ER (.slice a n cap) ll) : n = ll.length := by
  obtain ⟨a', cap', hv⟩ := h.shape
  simp at hv; exact hv.2.1
theorem OwnLs.grown {w0 w w' : World} {E : Ek} {ER : Nat} {v : Value} {ll : List (List Int)} (h : OwnLs w w0.heap.size E ER v ll) (hx : Ext w0 w) (hg : w.grownBy w' v.ownBlock) : Ext w0 w' := by
  obtain ⟨vs, h1, _⟩ := h
  exact Ext.row hx hg fun k hk => (World.ownsRow.lt h1 k hk).1
/-- What stands behind the append, where the source's values are slices that read as lists. -/
structure SrcLs (w : World) (E : Ek) (ax : Option Addr) (vs : List Value) (ll : List (List Int)) : Prop where
  rows : RowsV w E vs ll
  at_ : 0 < ll.length → ∃ b off, ax = some ⟨b, off, none⟩ ∧ ∀ j u, vs[j]? = some u → w.cell? ⟨b, off + j, none⟩ = some u
theorem SrcLs.ext {w w' : World} {E : Ek} {ax : Option Addr} {vs : List Value} {ll : List (List Int)} (h : SrcLs w E ax vs ll) (e : Ext w w') : SrcLs w' E ax vs ll := by
  refine ⟨h.rows.ext e, fun hl => ?_⟩
  obtain ⟨b, off, h1, h2⟩ := h.at_ hl
  exact ⟨b, off, h1, fun j u hj => e.cell' (h2 j u hj) (lt_of_cell (h2 j u hj))⟩
theorem OwnLs.src {w : World} {B : Nat} {E : Ek} {ER cap n : Nat} {a : Option Addr} {ll : List (List Int)} (h : OwnLs w B E ER (.slice a n cap) ll) : ∃ vs, SrcLs w E a vs ll := by
  obtain ⟨vs, h1, h2⟩ := h
  refine ⟨vs, h2, fun hl => ?_⟩
  have h1' := h1
  rcases h1'.2 with ⟨hv, h0⟩ | ⟨g, cap', cur, hv, hB, hg, _⟩
  · omega
  · have ha : a = some ⟨g, 0, none⟩ := by simp at hv; exact hv.1
    subst ha
    have hn : n = ll.length := by simp at hv; exact hv.1
    subst hn
    refine ⟨g, 0, rfl, fun j u hj => ?_⟩
    have hjl : j < ll.length := by have := (List.getElem?_eq_some_iff.1 hj).1; have := h2.1; omega
    rw [Nat.zero_add, World.ownsRow.cellAt h1 j (by omega)]; exact hj
/-- One slice in a new block. -/
theorem SrcLs.one {w : World} {E : Ek} {c g : Nat} {a : Option Addr} {l : List Int} (h : IntsE w E a l) (hc : l.length ≤ c) (hg : w.cell? ⟨g, 0, none⟩ = some (.slice a l.length c)) : SrcLs w E (some ⟨g, 0, none⟩) [.slice a l.length c] [l] := by
  refine ⟨RowsV.one h hc, fun _ => ⟨g, 0, rfl, fun j u hj => ?_⟩⟩
  match j, hj with
  | 0, hj => simp at hj; subst hj; exact hg
  | j + 1, hj => simp at hj
/-- append of a slice of slices to one of the call's own. -/
theorem any_append_ls {P : Program} {ops : Array Oper} {rest : List Oper} {o : Oper} {a : Act} {Q : Exit → Act → World → Prop} {w : World} (hw : Region.wanted o (yielded ops a.tmps) = true) (s x : Operand) (t : TypeId)
    (ho : o.op = .call { callee := .builtin .append, args := #[s, x], argTypes := #[t, t] }) (B : Nat) (E : Ek) (ER : Nat) (hE : E.t ≠ ER) (ht : P.underlying t = some (.slice ER))
    (hinfo : (P.info? ER).map (fun i => (i.zero, i.size, i.bytes)) = some (some (.slice none 0 0), 1, 24))
    (v : Value) (ll : List (List Int)) (hs : a.eval s = v) (hown : OwnLs w B E ER v ll) (ax : Option Addr) (m cx : Nat) (vs : List Value) (mm : List (List Int)) (hx : a.eval x = .slice ax m cx) (hm : mm.length = m) (hi : SrcLs w E ax vs mm)
    (hlen : ll.length + m ≤ 1099511627776) (hB : B ≤ w.heap.size)
    (h : ∀ v' w', OwnLs w' B E ER v' (ll ++ mm) → w.grownBy w' v.ownBlock → wpList P ops Q rest (a.put o.dst v') w') : wpList P ops Q (o :: rest) a w := by
  have hty := hown.typed
  obtain ⟨us, h1, h2⟩ := hown
  refine BigFrame.wpList_want hw fun K hK' => wp_append_of s x t ho B ER 1 24 _ ht hinfo rfl (by decide) (by decide) v ll.length us hs h1 ax m cx vs hx (by rw [hi.rows.1, hm]; omega) (fun h0 => hi.at_ (by omega)) hi.rows.cells1 hlen hB
    fun v' w' h3 h4 => hK' _ _ (h v' w' ⟨us ++ vs, ?_, ?_⟩ h4)
  · rw [List.length_append, hm]; exact h3
  · exact (h2.append hi.rows).kept h4 hty hE
theorem astep_append_ls {P : Program} {ops : Array Oper} {o : Oper} {a : Act} {K : Act → World → Prop} {Q : Exit → Act → World → Prop} {X : Prop} {w : World} (hgd : o.guard = none) (s x : Operand) (t : TypeId)
    (ho : o.op = .call { callee := .builtin .append, args := #[s, x], argTypes := #[t, t] }) (B : Nat) (E : Ek) (ER : Nat) (hE : E.t ≠ ER) (ht : P.underlying t = some (.slice ER))
    (hinfo : (P.info? ER).map (fun i => (i.zero, i.size, i.bytes)) = some (some (.slice none 0 0), 1, 24))
    (v : Value) (ll : List (List Int)) (hs : a.eval s = v) (hown : OwnLs w B E ER v ll) (ax : Option Addr) (m cx : Nat) (vs : List Value) (mm : List (List Int)) (hx : a.eval x = .slice ax m cx) (hm : mm.length = m) (hi : SrcLs w E ax vs mm)
    (hlen : ll.length + m ≤ 1099511627776) (hB : B ≤ w.heap.size)
    (h : ∀ v' w', OwnLs w' B E ER v' (ll ++ mm) → w.grownBy w' v.ownBlock → K (a.put o.dst v') w') : if Region.wanted o (yielded ops a.tmps) = true then Oper.wp P o a w K Q else X := by
  have hw : Region.wanted o (yielded ops a.tmps) = true := by simp [Region.wanted, hgd]
  rw [if_pos hw]
  have hty := hown.typed
  obtain ⟨us, h1, h2⟩ := hown
  refine wp_append_of s x t ho B ER 1 24 _ ht hinfo rfl (by decide) (by decide) v ll.length us hs h1 ax m cx vs hx (by rw [hi.rows.1, hm]; omega) (fun h0 => hi.at_ (by omega)) hi.rows.cells1 hlen hB
    fun v' w' h3 h4 => h v' w' ⟨us ++ vs, ?_, ?_⟩ h4
  · rw [List.length_append, hm]; exact h3
  · exact (h2.append hi.rows).kept h4 hty hE
/-- What a call that makes a list of lists comes to. -/
def RetLs (E : Ek) (ER : Nat) (w : World) (ll : List (List Int)) (e : Ending) (w' : World) : Prop := ∃ v, e = .returned v ∧ OwnLs w' w.heap.size E ER v ll ∧ Ext w w'
end Go.Kt
namespace Go.Proofs.YtlaamecfknkmlaaGreat
open Go.RowKit Go.Kt
theorem neE {X : Nat → Prop} : (Ek.mk 3 X).t ≠ 23 := by show (3 : Nat) ≠ 23; decide
end Go.Proofs.YtlaamecfknkmlaaGreat
namespace Go.Proofs.YtlaamecfknkmlaaGreat
set_option linter.unusedVariables false
open Go.RowKit Go.Kt

theorem infoTp : (Tryz.prog.info? 81).map (fun i => (i.zero, i.size, i.bytes)) = some (some (.pointer none), 1, 8) := by kernel_rfl
/-- What building a tree comes to. -/
def RetT (w : World) (t : Kt) (e : Ending) (w' : World) : Prop := ∃ g, e = .returned (.pointer (some ⟨g, 0, none⟩)) ∧ TreeAt w' (fun _ => False) t g ∧ Ext w w'
/-- The loop's relation. -/
def BuildSt (l : List Int) (w : World) (v i : Value) (wr : World) : Prop :=
  ∃ (k : Nat) (ts : List Kt) (gs : List Nat), k ≤ l.length ∧ i = .int .i64 k ∧ StkK l k ts ∧ StackT wr w.heap.size 81 v ts gs ∧ Ext w wr
set_option maxRecDepth 100000 in
set_option maxHeartbeats 2000000 in
theorem buildL_c (a : Option Addr) (cap : Nat) (l : List Int) (t : Kt) (w : World) (hl : IntsAt w a l) (hg : t.Good) (hw : t.words = l) (hv : KvL l) :
    Calls Tryz.prog 69 #[.slice a l.length cap] w (RetT w t) := by
  have hl1 := hv.1
  have hl40 := hv.2.1
  obtain ⟨b, off, h1, h2⟩ := hl
  obtain ⟨rfl, hb⟩ := h1 (by omega)
  have H2 := Lib.hid h2
  have HV := Lib.hid hv
  have HF : Hid (∀ ts, StkK l l.length ts → ts = [t]) := fun ts hs => by
    have h1 := hs.2.2
    rw [hv.2.2] at h1
    have h2 : ts.length = 1 := (Option.some.inj h1).symm
    obtain ⟨us, u, rfl⟩ := splitK1 (show 1 ≤ ts.length by omega)
    obtain rfl : us = [] := List.eq_nil_of_length_eq_zero (by simp only [List.length_append, List.length_cons, List.length_nil] at h2; omega)
    obtain ⟨hgu, hwu⟩ := hs.done
    have : u = t := Kt.words_inj hgu hg (hwu.trans hw.symm)
    rw [this]; rfl
  clear h1 h2 hg hw hv
  go_enter Tryz.func69, Tryz.ntmps69
  go_wp2
  go_loopw [3, 10] (fun v i wr => Hid (BuildSt l w v i wr)) (fun _ i _ => l.length - (intOf i).toNat)
  case atStart => exact Lib.hid ⟨0, [], [], Nat.zero_le _, rfl, StkK.start l, StackT.nil _ _ _, by (repeat (first | exact Ext.refl _ | assumption | refine Ext.alloc ?_ _ | refine Ext.drewN ?_ _ | refine Ext.drew ?_))⟩
  case round =>
    obtain ⟨k, ts, gs, hk, rfl, hs, ho, hx⟩ := hrel.out
    clear hrel
    have hz := hx.size
    have hm : ts.length ≤ k := mnyK_le hs.2.2
    have HO := Lib.hid ho
    have HX := Lib.hid hx
    have HS := Lib.hid hs
    by_cases hlt : k < l.length
    · have hc := hx.cell' (H2.out k hlt) hb
      have hn := HV.out.good hlt hs.2.2
      have hcall : Hid (∀ w0 : World, Calls Tryz.prog 126 #[.int .i64 (nth l k)] w0 fun e w' => e = .returned (.int .i64 (tkK (nth l k))) ∧ w0 = w') := fun w0 => takes_c _ w0
      rcases tkK_range (nth l k) with h0 | h0 | h0
      · have hS := Lib.hid (hs.leaf hlt hn h0)
        rw [h0] at hcall
        have hparts := ho.parts
        clear hs hn h0 HS ho hx
        obtain ⟨m, hme⟩ : ∃ m, m = ts.length := ⟨_, rfl⟩
        have HME := Lib.hid hme
        rw [← hme] at hparts hm
        clear hme
        have hwm : IntKind.i64.wrap ((m : Int) - 0) = (m : Int) := by rw [IntWalk.i64_in _ (by omega)]; omega
        generalize nth l k = x at *
        rcases hparts with ⟨rfl, rfl⟩ | ⟨r, cv, rfl, hcap, hBr, hr⟩
        · have HO1 := HO.out.1
          rw [← HME.out] at HO1
          have HO2 := Lib.hid HO1
          clear HO1
          go_wp2_with fail
          refine (hcall.out _).mono ?_
          rintro e w1 ⟨rfl, rfl⟩
          go_wp2_with (at_builtin; refine want_append_fresh (by rfl) _ _ _ rfl 81 (.pointer none) 8 Tryz.underlying118 infoTp rfl (by decide) rfl _ 0 _ [] rfl rfl (fun h => absurd h (by decide)) (fun u hu => by cases hu) (by omega) ?_)
          rintro v6 w6 - x6 e6
          obtain rfl := e6
          have X6 := Lib.hid x6
          clear x6
          go_wp2_with (at_builtin; refine want_append_at (by rfl) _ _ _ rfl w.heap.size 81 (.pointer none) 8 Tryz.underlying118 infoTp rfl (by decide) _ 0 (gs.map ptrV) rfl (own_ext HO2.out (X6.out.trans (by (repeat (first | exact Ext.refl _ | assumption | refine Ext.alloc ?_ _ | refine Ext.drewN ?_ _ | refine Ext.drew ?_))))) _ (ptrV w6.heap.size) rfl (by simp [go_sem, ptrV]) rfl (by omega) (by have := X6.out.size; simp; omega) ?_)
          intro v7 w7 o7 g7 wh7
          have hsT := Lib.hid (StackT.push (HO.out.ext (X6.out.trans (by (repeat (first | exact Ext.refl _ | assumption | refine Ext.alloc ?_ _ | refine Ext.drewN ?_ _ | refine Ext.drew ?_))))) g7 (by rw [← HME.out]; exact o7) (by simp only [World.size_alloc]; exact wh7) (HO.out.leaf X6.out x 120 81))
          have hx7 := Lib.hid (Ext.row (HX.out.trans (X6.out.trans (by (repeat (first | exact Ext.refl _ | assumption | refine Ext.alloc ?_ _ | refine Ext.drewN ?_ _ | refine Ext.drew ?_))))) g7 (fun k hk => (World.ownsRow.lt HO.out.1 k hk).1))
          clear o7 g7 wh7
          go_wp2
          go_roundw
          case rel => exact Lib.hid ⟨k + 1, _, _, by omega, by go_num, hS.out, hsT.out, hx7.out⟩
          case measure => simp [intOf]; omega
        · have HO1 := HO.out.1
          rw [← HME.out] at HO1
          have HO2 := Lib.hid HO1
          clear HO1
          by_cases hcm : cv = m
          all_goals
            try subst hcm
            go_wp2_with fail
            refine (hcall.out _).mono ?_
            rintro e w1 ⟨rfl, rfl⟩
            go_wp2_with (at_builtin; refine want_append_fresh (by rfl) _ _ _ rfl 81 (.pointer none) 8 Tryz.underlying118 infoTp rfl (by decide) rfl _ 0 _ [] rfl rfl (fun h => absurd h (by decide)) (fun u hu => by cases hu) (by omega) ?_)
            rintro v6 w6 - x6 e6
            obtain rfl := e6
            have X6 := Lib.hid x6
            clear x6
            go_wp2_with (at_builtin; refine want_append_at (by rfl) _ _ _ rfl w.heap.size 81 (.pointer none) 8 Tryz.underlying118 infoTp rfl (by decide) _ _ (gs.map ptrV) rfl (own_ext HO2.out (X6.out.trans (by (repeat (first | exact Ext.refl _ | assumption | refine Ext.alloc ?_ _ | refine Ext.drewN ?_ _ | refine Ext.drew ?_))))) _ (ptrV w6.heap.size) rfl (by simp [go_sem, ptrV]) rfl (by omega) (by have := X6.out.size; simp; omega) ?_)
            intro v7 w7 o7 g7 wh7
            have hsT := Lib.hid (StackT.push (HO.out.ext (X6.out.trans (by (repeat (first | exact Ext.refl _ | assumption | refine Ext.alloc ?_ _ | refine Ext.drewN ?_ _ | refine Ext.drew ?_))))) g7 (by rw [← HME.out]; exact o7) (by simp only [World.size_alloc]; exact wh7) (HO.out.leaf X6.out x 120 81))
            have hx7 := Lib.hid (Ext.row (HX.out.trans (X6.out.trans (by (repeat (first | exact Ext.refl _ | assumption | refine Ext.alloc ?_ _ | refine Ext.drewN ?_ _ | refine Ext.drew ?_))))) g7 (fun k hk => (World.ownsRow.lt HO.out.1 k hk).1))
            clear o7 g7 wh7
            go_wp2
            go_roundw
            case rel => exact Lib.hid ⟨k + 1, _, _, by omega, by go_num, hS.out, hsT.out, hx7.out⟩
            case measure => simp [intOf]; omega
      · obtain ⟨us, p, rfl⟩ := splitK1 (not_bad_one hn h0)
        have hS := Lib.hid (hs.star hlt hn h0)
        have e21 : nth l k = 21 := by rcases tkK_cases (nth l k) with h | h | h | h <;> omega
        rw [h0] at hcall
        rw [e21] at hcall hc
        rcases ho.parts with ⟨-, h0'⟩ | ⟨r, cv, rfl, hcap, hBr, hr⟩
        · simp at h0'
        have hq : (us ++ [p]).length = us.length + 1 := by simp
        obtain ⟨gp, hgp, d0⟩ := ho.cell us.length (by simp)
        have hfz := ho.frz us.length
        have hT := Lib.hid (ho.tree (i := us.length) (t := p) (by simp) hgp)
        clear hs hn h0 HS ho hx e21 hgp
        rw [hq] at hcap hm ⊢
        obtain ⟨m, hme⟩ : ∃ m, m = us.length := ⟨_, rfl⟩
        have HME := Lib.hid hme
        rw [← hme] at hcap hm d0 hfz ⊢
        clear hme hq
        have hsrc : Hid (∀ j u, ([ptrV gp] : List Value)[j]? = some u → wr.cell? ⟨r, m + j, none⟩ = some u) := fun j u hj => by
          match j, hj with
          | 0, hj => simp at hj; subst hj; exact d0
          | j + 1, hj => simp at hj
        have hwm : IntKind.i64.wrap ((m : Int) + 1 - 1) = (m : Int) := by rw [IntWalk.i64_in _ (by omega)]; omega
        have hmc : (m : Int) ≤ cv := by omega
        have hne : ¬ cv = m := by omega
        go_wp2_with fail
        refine (hcall.out _).mono ?_
        rintro e w1 ⟨rfl, rfl⟩
        go_wp2_with (at_builtin; refine want_append_fresh (by rfl) _ _ _ rfl 81 (.pointer none) 8 Tryz.underlying118 infoTp rfl (by decide) rfl _ 1 _ [ptrV gp] rfl rfl (fun _ => ⟨r, m, rfl, hsrc.out⟩) (fun u hu => by simp at hu; subst hu; rfl) (by omega) ?_)
        rintro v6 w6 o6 x6
        obtain ⟨a6, c6, rfl⟩ := own_shapev o6
        obtain ⟨h6, rfl, hB6, hr6⟩ := own_headv o6 (by decide)
        have k6 := Lib.hid ((World.ownsRow.cellAt o6 0 (by decide)).trans (rfl : ([ptrV gp] : List Value)[0]? = some (ptrV gp)))
        have d6 := x6.cell' d0 hr
        have f6 := (x6.frozen (p := ⟨r, m, none⟩) hr).trans hfz
        have hT6 := Lib.hid (hT.out.ext x6)
        have X6 := Lib.hid x6
        have z6 : r < w6.heap.size := Nat.lt_of_lt_of_le hr x6.size
        have hne6 : h6 ≠ r := by omega
        have hN := Lib.hid (TreeAt.mkStar (c := c6) k6.out hne6 hT6.out z6 120 (.cells #[.pointer (some ⟨w6.heap.size, 0, none⟩)] 81))
        clear o6 x6 hfz d0
        go_wp2
        go_roundw
        case rel =>
          have hme := HME.out
          subst hme
          exact Lib.hid ⟨k + 1, us ++ [.star p], gs.take us.length ++ [w6.heap.size], by omega, by go_num, hS.out, StackT.put' (vs := []) (HO.out.ext (X6.out.trans (by (repeat (first | exact Ext.refl _ | assumption | refine Ext.alloc ?_ _ | refine Ext.drewN ?_ _ | refine Ext.drew ?_))))) z6 hN.out, Ext.trans (Ext.setCell (HX.out.trans X6.out) (p := ⟨r, us.length, none⟩) hBr _) (by (repeat (first | exact Ext.refl _ | assumption | refine Ext.alloc ?_ _ | refine Ext.drewN ?_ _ | refine Ext.drew ?_)))⟩
        case measure => simp [intOf]; omega
      · obtain ⟨us, p, q, rfl⟩ := splitK2 (not_bad_two hn h0)
        have hS := Lib.hid (hs.two hlt hn h0)
        rw [h0] at hcall
        rcases ho.parts with ⟨-, h0'⟩ | ⟨r, cv, rfl, hcap, hBr, hr⟩
        · simp at h0'
        have hq : (us ++ [p, q]).length = us.length + 2 := by simp
        obtain ⟨gp, hgp, d0⟩ := ho.cell us.length (by simp)
        obtain ⟨gq, hgq, d1⟩ := ho.cell (us.length + 1) (by simp)
        have hfz := ho.frz us.length
        have hT := Lib.hid (ho.tree (i := us.length) (t := p) (by simp) hgp)
        have hU := Lib.hid (ho.tree (i := us.length + 1) (t := q) (by simp) hgq)
        clear hs hn h0 HS ho hx hgp hgq
        rw [hq] at hcap hm ⊢
        obtain ⟨m, hme⟩ : ∃ m, m = us.length := ⟨_, rfl⟩
        have HME := Lib.hid hme
        rw [← hme] at hcap hm d0 d1 hfz ⊢
        clear hme hq
        have hsrc : Hid (∀ j u, ([ptrV gp, ptrV gq] : List Value)[j]? = some u → wr.cell? ⟨r, m + j, none⟩ = some u) := fun j u hj => by
          match j, hj with
          | 0, hj => simp at hj; subst hj; exact d0
          | 1, hj => simp at hj; subst hj; exact d1
          | j + 2, hj => simp at hj
        have hwm : IntKind.i64.wrap ((m : Int) + 2 - 2) = (m : Int) := by rw [IntWalk.i64_in _ (by omega)]; omega
        have hmc : (m : Int) ≤ cv := by omega
        have hne : ¬ cv = m := by omega
        generalize nth l k = x at *
        go_wp2_with fail
        refine (hcall.out _).mono ?_
        rintro e w1 ⟨rfl, rfl⟩
        go_wp2_with (at_builtin; refine want_append_fresh (by rfl) _ _ _ rfl 81 (.pointer none) 8 Tryz.underlying118 infoTp rfl (by decide) rfl _ 2 _ [ptrV gp, ptrV gq] rfl rfl (fun _ => ⟨r, m, rfl, hsrc.out⟩) (fun u hu => by simp at hu; rcases hu with rfl | rfl <;> rfl) (by omega) ?_)
        rintro v6 w6 o6 x6
        obtain ⟨a6, c6, rfl⟩ := own_shapev o6
        obtain ⟨h6, rfl, hB6, hr6⟩ := own_headv o6 (by decide)
        have k6 := Lib.hid ((World.ownsRow.cellAt o6 0 (by decide)).trans (rfl : ([ptrV gp, ptrV gq] : List Value)[0]? = some (ptrV gp)))
        have j6 := Lib.hid ((World.ownsRow.cellAt o6 1 (by decide)).trans (rfl : ([ptrV gp, ptrV gq] : List Value)[1]? = some (ptrV gq)))
        have d6 := x6.cell' d0 hr
        have f6 := (x6.frozen (p := ⟨r, m, none⟩) hr).trans hfz
        have hT6 := Lib.hid (hT.out.ext x6)
        have hU6 := Lib.hid (hU.out.ext x6)
        have X6 := Lib.hid x6
        have z6 : r < w6.heap.size := Nat.lt_of_lt_of_le hr x6.size
        have hne6 : h6 ≠ r := by omega
        have hN := Lib.hid (TreeAt.mkTwo (c := c6) (s := x) k6.out j6.out hne6 hT6.out hU6.out z6 120 (.cells #[.pointer (some ⟨w6.heap.size, 0, none⟩)] 81))
        clear o6 x6 hfz d0 d1
        go_wp2
        go_roundw
        case rel =>
          have hme := HME.out
          subst hme
          exact Lib.hid ⟨k + 1, us ++ [.two x p q], gs.take us.length ++ [w6.heap.size], by omega, by go_num, hS.out, StackT.put' (vs := [q]) (HO.out.ext (X6.out.trans (by (repeat (first | exact Ext.refl _ | assumption | refine Ext.alloc ?_ _ | refine Ext.drewN ?_ _ | refine Ext.drew ?_))))) z6 hN.out, Ext.trans (Ext.setCell (HX.out.trans X6.out) (p := ⟨r, us.length, none⟩) hBr _) (by (repeat (first | exact Ext.refl _ | assumption | refine Ext.alloc ?_ _ | refine Ext.drewN ?_ _ | refine Ext.drew ?_)))⟩
        case measure => simp [intOf]; omega
    · obtain rfl : k = l.length := by omega
      obtain rfl := HF.out ts hs
      rcases ho.parts with ⟨-, h0⟩ | ⟨r, cv, rfl, hcap, hBr, hr⟩
      · cases h0
      obtain ⟨g, hg, hc⟩ := ho.cell 0 (by simp)
      have ht := Lib.hid ((ho.tree (i := 0) rfl hg).free)
      clear ho hx hs HS
      have hc : wr.cell? ⟨r, 0, none⟩ = some (.pointer (some ⟨g, 0, none⟩)) := hc
      have hl1 : ([t] : List Kt).length = 1 := rfl
      rw [hl1]
      go_wp2
      go_ret
      exact ⟨g, rfl, ht.out.ext (by (repeat (first | exact Ext.refl _ | assumption | refine Ext.alloc ?_ _ | refine Ext.drewN ?_ _ | refine Ext.drew ?_))), HX.out.trans (by (repeat (first | exact Ext.refl _ | assumption | refine Ext.alloc ?_ _ | refine Ext.drewN ?_ _ | refine Ext.drew ?_)))⟩
end Go.Proofs.YtlaamecfknkmlaaGreat
namespace Go.Kt
set_option linter.unusedVariables false
theorem OwnI.fit {w : World} {B E n cap : Nat} {a : Option Addr} {l : List Int} (h : OwnI w B E (.slice a n cap) l) : n ≤ cap := by
  rcases h.2 with ⟨hv, _⟩ | ⟨g', cap', cur, hv, _, _, hn', _⟩
  · simp at hv; omega
  · simp at hv; omega
theorem OwnLs.fit {w : World} {B : Nat} {E : Ek} {ER n cap : Nat} {a : Option Addr} {ll : List (List Int)} (h : OwnLs w B E ER (.slice a n cap) ll) : n ≤ cap := by
  obtain ⟨vs, h1, _⟩ := h
  rcases h1.2 with ⟨hv, _⟩ | ⟨g', cap', cur, hv, _, _, hn', _⟩
  · simp at hv; omega
  · simp at hv; omega
/-- How long the lists are. -/
theorem partsL_row {at_ : Nat} {act : Int} (ha : 16 ≤ act) {t : Kt} {x : List Int} (h : x ∈ partsL at_ act t) : 1 ≤ x.length ∧ x.length ≤ t.bnd := by
  obtain ⟨p, hp, rfl⟩ := mem_partsL.1 h
  exact ⟨p.words_pos, (pd_bnd t p (part_pd at_ act ha t p hp)).2⟩
theorem bnd_star (a : Kt) : a.bnd ≤ (Kt.star a).bnd ∧ (Kt.star a).words.length ≤ (Kt.star a).bnd := by
  have e : (Kt.star a).words.length = a.words.length + 1 := by simp [Kt.words]
  have := e
  show a.bnd ≤ a.bnd + a.words.length + 2 ∧ _ ≤ a.bnd + a.words.length + 2
  omega
theorem bnd_two (s : Int) (a b : Kt) : a.bnd ≤ (Kt.two s a b).bnd ∧ b.bnd ≤ (Kt.two s a b).bnd := by
  have e : (Kt.two s a b).bnd = if s = 19 then max (a.bnd + b.words.length + 1) b.bnd else max a.bnd b.bnd := rfl
  rw [e]; split <;> omega
theorem nth_drop {l r : List Int} {k : Nat} {x : Int} (h : l.drop k = x :: r) : nth l k = x := by
  have h1 : (l.drop k)[0]? = some x := by rw [h]; rfl
  rw [List.getElem?_drop, Nat.add_zero] at h1
  unfold nth; rw [List.getD_eq_getElem?_getD, h1]; rfl
theorem drop_more {l xs r : List Int} {k : Nat} (h : l.drop k = xs ++ r) : l.drop (k + xs.length) = r := by
  rw [← List.drop_drop, h]; simp
theorem mny_words : ∀ (t : Kt), t.Good → ∀ {l : List Int} {k m : Nat} {r : List Int}, l.drop k = t.words ++ r → mnyK l k = some m → mnyK l (k + t.words.length) = some (m + 1)
  | .leaf s, hg, l, k, m, r, h, hm => by
    have hg : 0 ≤ s ∧ s ≤ 18 := hg
    have e := nth_drop (show l.drop k = s :: r from h)
    have ht : tkK s = 0 := by unfold tkK; rw [if_neg (by omega), if_neg (by omega)]
    have h1 := mnyK_good hm (by unfold BadK; rw [e, ht]; omega)
    rw [e, ht] at h1
    simpa [Kt.words] using h1
  | .star a, hg, l, k, m, r, h, hm => by
    have h' : l.drop k = a.words ++ (21 :: r) := by rw [h]; simp [Kt.words]
    have ih := mny_words a hg h' hm
    have e := nth_drop (drop_more h')
    have ht : tkK 21 = 1 := by decide
    have h1 := mnyK_good ih (by unfold BadK; rw [e, ht]; omega)
    rw [e, ht] at h1
    rw [show k + (Kt.star a).words.length = k + a.words.length + 1 by simp [Kt.words]; omega, h1]; rfl
  | .two s a b, hg, l, k, m, r, h, hm => by
    have h' : l.drop k = a.words ++ (b.words ++ (s :: r)) := by rw [h]; simp [Kt.words]
    have ih := mny_words a hg.2.1 h' hm
    have h2 := drop_more h'
    have ih2 := mny_words b hg.2.2 h2 ih
    have e := nth_drop (drop_more h2)
    have hs : s = 19 ∨ s = 20 := hg.1
    have ht : tkK s = 2 := by unfold tkK; rw [if_pos hs]
    have h1 := mnyK_good ih2 (by unfold BadK; rw [e, ht]; omega)
    rw [e, ht] at h1
    rw [show k + (Kt.two s a b).words.length = k + a.words.length + b.words.length + 1 by simp [Kt.words]; omega, h1]; rfl
theorem KvL.words {t : Kt} (hg : t.Good) (h : t.words.length ≤ 4096) : KvL t.words := by
  have h1 := mny_words t hg (l := t.words) (k := 0) (m := 0) (r := []) (by simp) rfl
  rw [Nat.zero_add] at h1
  exact ⟨t.words_pos, h, h1⟩
theorem behindL_len (p t : List Int) : (behindL p t).length ≤ p.length + t.length + 1 := by
  unfold behindL
  split
  · omega
  · simp; omega
theorem map_take1 {L : List (List Int)} {f : List Int → List Int} {k : Nat} (h : k < L.length) : (L.take (k + 1)).map f = (L.take k).map f ++ [f (rowI L k)] := by
  rw [List.take_add_one, List.getElem?_eq_getElem h, List.map_append, rowI_getElem _ _ h]; rfl
theorem rowI_mem2 {L : List (List Int)} {k : Nat} (h : k < L.length) : rowI L k ∈ L := by
  rw [rowI_getElem _ _ h]; exact List.getElem_mem h
end Go.Kt
namespace Go.Kt
set_option linter.unusedVariables false
/-- A slice of one list, in a new block. -/
theorem OwnLs.lit {w : World} {E : Ek} {ER c : Nat} {a : Option Addr} {l : List Int} (B : Nat) (h : IntsE w E a l) (hc : l.length ≤ c) (hB : B ≤ w.heap.size) :
    OwnLs (w.alloc (.cells #[.slice a l.length c] ER)) B E ER (.slice (some ⟨w.heap.size, 0, none⟩) 1 1) [l] :=
  ⟨[.slice a l.length c], World.ownsRow_lit (base := B) (e := ER) (size := 1) w #[.slice a l.length c] 1 hB (by unfold maxLen; omega) rfl, RowsV.one (h.ext (Ext.alloc (Ext.refl _) _)) hc⟩
end Go.Kt
namespace Go.Kt
set_option linter.unusedVariables false
def cmpI (x y : Int) : Int := if x < y then -1 else if y < x then 1 else 0
/-- How two lists of numbers compare. -/
def cmpL : List Int → List Int → Int
  | [], [] => 0
  | [], _ :: _ => -1
  | _ :: _, [] => 1
  | a :: xs, b :: ys => if a < b then -1 else if b < a then 1 else cmpL xs ys
theorem cmpL_lt : ∀ x y, decide (cmpL x y < 0) = ltL x y
  | [], [] => rfl
  | [], _ :: _ => rfl
  | _ :: _, [] => rfl
  | a :: xs, b :: ys => by
    unfold cmpL ltL
    split
    · rfl
    · split
      · rfl
      · exact cmpL_lt xs ys
theorem cmpL_cons (a b : Int) (xs ys : List Int) : cmpL (a :: xs) (b :: ys) = if a < b then -1 else if b < a then 1 else cmpL xs ys := rfl
theorem drop_nth {l : List Int} {k : Nat} (h : k < l.length) : l.drop k = nth l k :: l.drop (k + 1) := by
  rw [List.drop_eq_getElem_cons h, nth_getElem l k h]
end Go.Kt
namespace Go.Proofs.YtlaamecfknkmlaaGreat
set_option linter.unusedVariables false
open Go.RowKit Go.Kt

theorem isNaN_c (x : Int) (w : World) : Calls Tryz.prog 179 #[.int .i64 x] w fun e w' => e = .returned (.bool false) ∧ w = w' := by
  have h : (x != x) = false := by simp
  go_enter Tryz.func179, Tryz.ntmps179
  go_wp2
  go_ret
  exact ⟨rfl, rfl⟩
theorem cmpInt_c (x y : Int) (w : World) : Calls Tryz.prog 164 #[.int .i64 x, .int .i64 y] w fun e w' => e = .returned (.int .i64 (cmpI x y)) ∧ w = w' := by
  by_cases h1 : x < y
  · have hv : Hid (cmpI x y = -1) := if_pos h1
    go_enter Tryz.func164, Tryz.ntmps164
    go_wp2_with (go_at_call 179; refine (isNaN_c _ _).mono ?_; rintro e w1 ⟨rfl, rfl⟩)
    go_ret
    exact ⟨by rw [hv.out]; rfl, rfl⟩
  · by_cases h2 : y < x
    · have hv : Hid (cmpI x y = 1) := by unfold Hid cmpI; rw [if_neg h1, if_pos h2]
      go_enter Tryz.func164, Tryz.ntmps164
      go_wp2_with (go_at_call 179; refine (isNaN_c _ _).mono ?_; rintro e w1 ⟨rfl, rfl⟩)
      go_ret
      exact ⟨by rw [hv.out]; rfl, rfl⟩
    · have hv : Hid (cmpI x y = 0) := by unfold Hid cmpI; rw [if_neg h1, if_neg h2]
      go_enter Tryz.func164, Tryz.ntmps164
      go_wp2_with (go_at_call 179; refine (isNaN_c _ _).mono ?_; rintro e w1 ⟨rfl, rfl⟩)
      go_ret
      exact ⟨by rw [hv.out]; rfl, rfl⟩
set_option maxHeartbeats 1000000 in
theorem compare_c (a1 a2 : Option Addr) (c1 c2 : Nat) (l1 l2 : List Int) (w : World) (h1 : IntsAt w a1 l1) (h2 : IntsAt w a2 l2) (hl1 : l1.length ≤ 4611686018427387904) (hl2 : l2.length ≤ 4611686018427387904) :
    Calls Tryz.prog 131 #[.slice a1 l1.length c1, .slice a2 l2.length c2] w fun e w' => e = .returned (.int .i64 (cmpL l1 l2)) ∧ w = w' := by
  obtain ⟨b1, o1, p1, q1⟩ := h1
  obtain ⟨b2, o2, p2, q2⟩ := h2
  have P1 := Lib.hid p1
  have Q1 := Lib.hid q1
  have P2 := Lib.hid p2
  have Q2 := Lib.hid q2
  obtain ⟨r, hr⟩ : ∃ r, Hid (r = cmpL l1 l2) := ⟨_, rfl⟩
  rw [← hr.out]
  clear p1 q1 p2 q2
  go_enter Tryz.func131, Tryz.ntmps131
  go_wp2
  go_loop [11] (fun i => Hid (∃ k : Nat, k ≤ l1.length ∧ k ≤ l2.length ∧ i = .int .i64 k ∧ r = cmpL (l1.drop k) (l2.drop k))) (fun i => l1.length - (intOf i).toNat)
  case atStart => exact Lib.hid ⟨0, Nat.zero_le _, Nat.zero_le _, rfl, hr.out⟩
  case round =>
    obtain ⟨k, hk1, hk2, rfl, hk⟩ := hrel.out
    clear hrel hr
    by_cases hlt : k < l1.length
    · obtain ⟨rfl, z1⟩ := P1.out (by omega)
      have d1 := Q1.out k hlt
      by_cases hlt2 : k < l2.length
      · obtain ⟨rfl, z2⟩ := P2.out (by omega)
        have d2 := Q2.out k hlt2
        rw [drop_nth hlt, drop_nth hlt2] at hk
        by_cases hc : cmpI (nth l1 k) (nth l2 k) = 0
        · have hs : Hid (r = cmpL (l1.drop (k + 1)) (l2.drop (k + 1))) := by
            unfold Hid; rw [hk, cmpL_cons]; unfold cmpI at hc
            split at hc
            · omega
            · split at hc
              · omega
              · rw [if_neg (by assumption), if_neg (by assumption)]
          have hc0 : (cmpI (nth l1 k) (nth l2 k) != 0) = false := by simp [hc]
          have HC : Hid (∀ W, Calls Tryz.prog 164 #[.int .i64 (nth l1 k), .int .i64 (nth l2 k)] W fun e w' => e = .returned (.int .i64 (cmpI (nth l1 k) (nth l2 k))) ∧ W = w') := fun W => cmpInt_c _ _ W
          clear hk hc
          generalize cmpI (nth l1 k) (nth l2 k) = c at *
          generalize nth l1 k = x at *
          generalize nth l2 k = y at *
          go_wp2_with (go_at_call 164; refine (HC.out _).mono ?_; rintro e w1 ⟨rfl, rfl⟩)
          go_round
          case rel => exact Lib.hid ⟨k + 1, by omega, by omega, by go_num, hs.out⟩
          case measure => simp [intOf]; omega
        · have hs : Hid (r = cmpI (nth l1 k) (nth l2 k)) := by
            unfold Hid; rw [hk, cmpL_cons]; unfold cmpI at hc ⊢
            split
            · rfl
            · rename_i h1; rw [if_neg h1] at hc
              split
              · rfl
              · rename_i h2; rw [if_neg h2] at hc; omega
          have hc0 : (cmpI (nth l1 k) (nth l2 k) != 0) = true := by simp [hc]
          have HC : Hid (∀ W, Calls Tryz.prog 164 #[.int .i64 (nth l1 k), .int .i64 (nth l2 k)] W fun e w' => e = .returned (.int .i64 (cmpI (nth l1 k) (nth l2 k))) ∧ W = w') := fun W => cmpInt_c _ _ W
          clear hk hc
          generalize cmpI (nth l1 k) (nth l2 k) = c at *
          generalize nth l1 k = x at *
          generalize nth l2 k = y at *
          go_wp2_with (go_at_call 164; refine (HC.out _).mono ?_; rintro e w1 ⟨rfl, rfl⟩)
          go_ret
          exact ⟨by rw [hs.out]; rfl, rfl⟩
      · have hs : Hid (r = 1) := by
          unfold Hid; rw [hk, show l2.drop k = [] from List.drop_eq_nil_of_le (by omega), drop_nth hlt]; rfl
        clear hk
        go_wp2
        go_ret
        exact ⟨by rw [hs.out]; rfl, rfl⟩
    · have hd : l1.drop k = [] := List.drop_eq_nil_of_le (by omega)
      rw [hd] at hk
      by_cases hlt2 : k < l2.length
      · have hs : Hid (r = -1) := by unfold Hid; rw [hk, drop_nth hlt2]; rfl
        have hll : l1.length < l2.length := by omega
        clear hk
        go_wp2
        go_ret
        exact ⟨by rw [hs.out]; rfl, rfl⟩
      · have hs : Hid (r = 0) := by unfold Hid; rw [hk, show l2.drop k = [] from List.drop_eq_nil_of_le (by omega)]; rfl
        have hll : ¬ l1.length < l2.length := by omega
        clear hk
        go_wp2
        go_ret
        exact ⟨by rw [hs.out]; rfl, rfl⟩
set_option maxRecDepth 100000 in
theorem equal_c (a1 a2 : Option Addr) (c1 c2 : Nat) (l1 l2 : List Int) (w : World) (h1 : IntsAt w a1 l1) (h2 : IntsAt w a2 l2) (hl1 : l1.length ≤ 4611686018427387904) (hl2 : l2.length ≤ 4611686018427387904) :
    Calls Tryz.prog 133 #[.slice a1 l1.length c1, .slice a2 l2.length c2] w fun e w' => e = .returned (.bool (l1 == l2)) ∧ ∃ m, w' = w.drewN m := by
  obtain ⟨b1, o1, p1, q1⟩ := h1
  obtain ⟨b2, o2, p2, q2⟩ := h2
  have P1 := Lib.hid p1
  have Q1 := Lib.hid q1
  have P2 := Lib.hid p2
  have Q2 := Lib.hid q2
  clear p1 q1 p2 q2
  by_cases hn : l1.length = l2.length
  · have hne : (((l1.length : Nat) : Int) != ((l2.length : Nat) : Int)) = false := by simp [hn]
    have HN := Lib.hid hn
    clear hn
    go_enter Tryz.func133, Tryz.ntmps133
    go_wp2
    go_loopw [13] (fun i wr => Hid (∃ k : Nat, k ≤ l1.length ∧ i = .int .i64 k ∧ (∀ j, j < k → nth l1 j = nth l2 j) ∧ ∃ m, wr = w.drewN m)) (fun i _ => l1.length - (intOf i).toNat)
    case atStart => exact Lib.hid ⟨0, Nat.zero_le _, rfl, fun j hj => absurd hj (Nat.not_lt_zero _), 0, rfl⟩
    case round =>
      obtain ⟨k, hk, rfl, hno, m, rfl⟩ := hrel.out
      have HO := Lib.hid hno
      clear hrel hno
      by_cases hlt : k < l1.length
      · have hlt2 : k < l2.length := by rw [← HN.out]; exact hlt
        obtain ⟨rfl, z1⟩ := P1.out (by omega)
        obtain ⟨rfl, z2⟩ := P2.out (by omega)
        have d1 := Q1.out k hlt
        have d2 := Q2.out k hlt2
        by_cases he : nth l1 k = nth l2 k
        · have hs : Hid (∀ j, j < k + 1 → nth l1 j = nth l2 j) := fun j hj => by
            by_cases hjk : j = k
            · rw [hjk]; exact he
            · exact HO.out j (by omega)
          have hq : (nth l1 k != nth l2 k) = false := by simp [he]
          clear he
          generalize nth l1 k = x at *
          generalize nth l2 k = y at *
          go_wp2
          go_quiet (fail)
          go_wp2
          go_roundw
          case rel => exact Lib.hid ⟨k + 1, by omega, by go_num, hs.out, by first | exact ⟨_, rfl⟩ | exact drawn2 _ _ _⟩
          case measure => simp [intOf]; omega
        · have hs : Hid ((l1 == l2) = false) := by
            unfold Hid; rw [beq_eq_false_iff_ne]; rintro rfl; exact he rfl
          have hq : (nth l1 k != nth l2 k) = true := by simp [he]
          clear he
          generalize nth l1 k = x at *
          generalize nth l2 k = y at *
          go_wp2
          go_quiet (fail)
          go_wp2
          go_ret
          exact ⟨by rw [hs.out]; rfl, by first | exact ⟨_, rfl⟩ | exact drawn2 _ _ _⟩
      · have hs : Hid ((l1 == l2) = true) := by
          unfold Hid; rw [beq_iff_eq]
          refine List.ext_getElem HN.out fun i h1 h2 => ?_
          have := HO.out i (by omega)
          rw [nth_getElem l1 i h1, nth_getElem l2 i h2] at this
          exact this
        go_wp2
        go_ret
        exact ⟨by rw [hs.out]; rfl, by first | exact ⟨_, rfl⟩ | exact drawn2 _ _ _⟩
  · have hne : (((l1.length : Nat) : Int) != ((l2.length : Nat) : Int)) = true := by simp; omega
    have hs : Hid ((l1 == l2) = false) := by
      unfold Hid; rw [beq_eq_false_iff_ne]; rintro rfl; exact hn rfl
    clear hn
    go_enter Tryz.func133, Tryz.ntmps133
    go_wp2
    go_ret
    exact ⟨by rw [hs.out]; rfl, 0, rfl⟩
end Go.Proofs.YtlaamecfknkmlaaGreat
namespace Go.Kt
set_option linter.unusedVariables false
/-- A slice of the call's own is cut behind its first places. -/
theorem OwnI.cut {w : World} {B E g cap : Nat} {us xs : List Int} (h : OwnI w B E (.slice (some ⟨g, 0, none⟩) (us ++ xs).length cap) (us ++ xs)) : OwnI w B E (.slice (some ⟨g, 0, none⟩) us.length cap) us := by
  obtain ⟨h1, h2⟩ := h
  refine ⟨by simp, ?_⟩
  rcases h2 with ⟨hv, h0⟩ | ⟨g', cap', cur, hv, hB, hg, hn, hc, hs, ht⟩
  · simp at hv
  · obtain ⟨rfl, rfl⟩ : g = g' ∧ cap = cap' := by simp at hv; exact ⟨hv.1, hv.2⟩
    refine .inr ⟨g, cap, cur, rfl, hB, hg, by rw [List.length_append] at hn; omega, hc, hs, ?_⟩
    have e : us.length * 1 ≤ (us ++ xs).length * 1 := by rw [List.length_append]; omega
    have h3 : cur.toList.take (us.length * 1) = (cur.toList.take ((us ++ xs).length * 1)).take (us.length * 1) := by rw [List.take_take, Nat.min_eq_left e]
    rw [h3, ht, List.map_append, Nat.mul_one, List.take_append_of_le_length (by simp), List.take_of_length_le (by simp)]
/-- Both at the end are made one. -/
theorem OwnI.put2 {w : World} {B E g cap : Nat} {us : List Int} {x y : Int} (h : OwnI w B E (.slice (some ⟨g, 0, none⟩) (us.length + 2) cap) (us ++ [x, y])) (u : Int) :
    OwnI (w.setCell ⟨g, us.length, none⟩ (.int .i64 u)) B E (.slice (some ⟨g, 0, none⟩) (us.length + 1) cap) (us ++ [u]) := by
  have e : (us ++ [x, y]).length = us.length + 2 := by simp
  rw [← e] at h
  have h1 := h.set us.length u
  have e1 : (us ++ [x, y]).set us.length u = (us ++ [u]) ++ [y] := by rw [List.set_append_right _ _ (Nat.le_refl _)]; simp
  rw [e1] at h1
  have h2 := OwnI.cut h1
  rw [List.length_append] at h2
  exact h2
theorem OwnI.put1 {w : World} {B E g cap : Nat} {us : List Int} {x : Int} (h : OwnI w B E (.slice (some ⟨g, 0, none⟩) (us.length + 1) cap) (us ++ [x])) (u : Int) :
    OwnI (w.setCell ⟨g, us.length, none⟩ (.int .i64 u)) B E (.slice (some ⟨g, 0, none⟩) (us.length + 1) cap) (us ++ [u]) := by
  have e : (us ++ [x]).length = us.length + 1 := by simp
  rw [← e] at h
  have h1 := h.set us.length u
  have e1 : (us ++ [x]).set us.length u = us ++ [u] := by rw [List.set_append_right _ _ (Nat.le_refl _)]; simp
  rw [e1, List.length_append] at h1
  exact h1
def endsL (ts : List Kt) : List Int := ts.map fun t => ((t.ends : Nat) : Int)
theorem endsL_app (xs ys : List Kt) : endsL (xs ++ ys) = endsL xs ++ endsL ys := by simp [endsL]
theorem endsL_len (ts : List Kt) : (endsL ts).length = ts.length := by simp [endsL]
theorem ends_act {x : Int} (h : 16 ≤ x) : (((Kt.leaf x).ends : Nat) : Int) = 0 := by unfold Kt.ends; rw [if_neg (by omega)]; rfl
theorem ends_test {x : Int} (h : x ≤ 15) (h0 : 0 ≤ x) : (((Kt.leaf x).ends : Nat) : Int) = x := by unfold Kt.ends; rw [if_pos h]; omega
/-- The loop's relation. -/
def EndSt (E : Nat) (l : List Int) (w : World) (v i : Value) (wr : World) : Prop :=
  ∃ (k : Nat) (ts : List Kt), k ≤ l.length ∧ i = .int .i64 k ∧ StkK l k ts ∧ OwnI wr w.heap.size E v (endsL ts) ∧ Ext w wr
end Go.Kt
namespace Go.Proofs.YtlaamecfknkmlaaGreat
set_option linter.unusedVariables false
open Go.RowKit Go.Kt

set_option maxRecDepth 100000 in
set_option maxHeartbeats 2000000 in
theorem ends_c (a : Option Addr) (cap : Nat) (l : List Int) (t : Kt) (w : World) (hl : IntsAt w a l) (hg : t.Good) (hw : t.words = l) (hv : KvL l) :
    Calls Tryz.prog 75 #[.slice a l.length cap] w fun e w' => e = .returned (.int .i64 (t.ends : Nat)) ∧ Ext w w' := by
  have hl1 := hv.1
  have hl40 := hv.2.1
  obtain ⟨b, off, h1, h2⟩ := hl
  obtain ⟨rfl, hb⟩ := h1 (by omega)
  have H2 := Lib.hid h2
  have HV := Lib.hid hv
  have HF : Hid (∀ ts, StkK l l.length ts → ts = [t]) := fun ts hs => by
    have h1 := hs.2.2
    rw [hv.2.2] at h1
    have h2 : ts.length = 1 := (Option.some.inj h1).symm
    obtain ⟨us, u, rfl⟩ := splitK1 (show 1 ≤ ts.length by omega)
    obtain rfl : us = [] := List.eq_nil_of_length_eq_zero (by simp only [List.length_append, List.length_cons, List.length_nil] at h2; omega)
    obtain ⟨hgu, hwu⟩ := hs.done
    have : u = t := Kt.words_inj hgu hg (hwu.trans hw.symm)
    rw [this]; rfl
  clear h1 h2 hg hw hv
  go_enter Tryz.func75, Tryz.ntmps75
  go_wp2
  go_loopw [3, 9] (fun v i wr => Hid (EndSt 3 l w v i wr)) (fun _ i _ => l.length - (intOf i).toNat)
  case atStart => exact Lib.hid ⟨0, [], Nat.zero_le _, rfl, StkK.start l, OwnI.nil _ _ _, by (repeat (first | exact Ext.refl _ | assumption | refine Ext.alloc ?_ _ | refine Ext.drewN ?_ _ | refine Ext.drew ?_))⟩
  case round =>
    obtain ⟨k, ts, hk, rfl, hs, ho, hx⟩ := hrel.out
    clear hrel
    have hz := hx.size
    have hm : ts.length ≤ k := mnyK_le hs.2.2
    have HO := Lib.hid ho
    have HX := Lib.hid hx
    by_cases hlt : k < l.length
    · have hc := hx.cell' (H2.out k hlt) hb
      have hn := HV.out.good hlt hs.2.2
      rcases tkK_range (nth l k) with h0 | h0 | h0
      · have hS := Lib.hid (hs.leaf hlt hn h0)
        obtain ⟨av, cv, rfl, -⟩ := ho.shape
        have hr : 0 ≤ nth l k ∧ nth l k ≤ 18 := by
          unfold BadK at hn
          unfold tkK at h0
          have a1 : ¬ (nth l k = 19 ∨ nth l k = 20) := fun e => by rw [if_pos e] at h0; cases h0
          rw [if_neg a1] at h0
          have a2 : ¬ nth l k = 21 := fun e => by rw [if_pos e] at h0; cases h0
          omega
        have hel : (endsL ts).length ≤ 4096 := by rw [endsL_len]; omega
        clear hs hn h0 ho hx
        by_cases hact : 16 ≤ nth l k
        · have hA : inB (nth l k) 16 18 = true := by simp [inB]; omega
          have HN : Hid (endsL (ts ++ [.leaf (nth l k)]) = endsL ts ++ [0]) := by unfold Hid; rw [endsL_app]; simp [endsL, ends_act hact]
          generalize nth l k = x at *
          go_wp2_with fail
          refine (actB_c _ _).mono ?_
          rw [hA]
          rintro e w' ⟨rfl, rfl⟩
          go_wp2_with (at_builtin; refine any_append_ints (by rfl) _ _ _ rfl (w.heap.size) 3 Tryz.underlying23 infoInt _ (endsL ts) rfl (HO.out.ext (by (repeat (first | exact Ext.refl _ | assumption | refine Ext.alloc ?_ _ | refine Ext.drewN ?_ _ | refine Ext.drew ?_)))) _ _ ([0]) rfl (by first | exact (OwnI.lit1 _ _ _ _ (Nat.le_refl _)).ints | exact ((OwnI.lit1 _ _ _ _ (Nat.le_refl _)).ints).ext (by (repeat (first | exact Ext.refl _ | assumption | refine Ext.alloc ?_ _ | refine Ext.drewN ?_ _ | refine Ext.drew ?_)))) (by first | omega | (simp; omega)) (by first | omega | (simp; done) | (simp; omega)) ?_)
          intro v7 w7 o7 g7
          have hx7 := Lib.hid (OwnI.grown (HO.out.ext (by (repeat (first | exact Ext.refl _ | assumption | refine Ext.alloc ?_ _ | refine Ext.drewN ?_ _ | refine Ext.drew ?_)))) (HX.out.trans (by (repeat (first | exact Ext.refl _ | assumption | refine Ext.alloc ?_ _ | refine Ext.drewN ?_ _ | refine Ext.drew ?_)))) g7)
          rw [← HN.out] at o7
          have HO7 := Lib.hid o7
          clear o7 g7
          go_wp2
          go_roundw
          case rel => exact Lib.hid ⟨k + 1, _, by omega, by go_num, hS.out, HO7.out, hx7.out⟩
          case measure => simp [intOf]; omega
        · have hA : inB (nth l k) 16 18 = false := by simp [inB]; omega
          have HN : Hid (endsL (ts ++ [.leaf (nth l k)]) = endsL ts ++ [nth l k]) := by unfold Hid; rw [endsL_app]; simp [endsL, ends_test (by omega) hr.1]
          have e1 : (nth l k == 19) = false := by simp; omega
          have e2 : (nth l k == 20) = false := by simp; omega
          have e3 : (nth l k == 21) = false := by simp; omega
          generalize nth l k = x at *
          go_wp2_with fail
          refine (actB_c _ _).mono ?_
          rw [hA]
          rintro e w' ⟨rfl, rfl⟩
          go_wp2_with (at_builtin; refine any_append_ints (by rfl) _ _ _ rfl (w.heap.size) 3 Tryz.underlying23 infoInt _ (endsL ts) rfl (HO.out.ext (by (repeat (first | exact Ext.refl _ | assumption | refine Ext.alloc ?_ _ | refine Ext.drewN ?_ _ | refine Ext.drew ?_)))) _ _ ([x]) rfl (by first | exact (OwnI.lit1 _ _ _ _ (Nat.le_refl _)).ints | exact ((OwnI.lit1 _ _ _ _ (Nat.le_refl _)).ints).ext (by (repeat (first | exact Ext.refl _ | assumption | refine Ext.alloc ?_ _ | refine Ext.drewN ?_ _ | refine Ext.drew ?_)))) (by first | omega | (simp; omega)) (by first | omega | (simp; done) | (simp; omega)) ?_)
          intro v7 w7 o7 g7
          have hx7 := Lib.hid (OwnI.grown (HO.out.ext (by (repeat (first | exact Ext.refl _ | assumption | refine Ext.alloc ?_ _ | refine Ext.drewN ?_ _ | refine Ext.drew ?_)))) (HX.out.trans (by (repeat (first | exact Ext.refl _ | assumption | refine Ext.alloc ?_ _ | refine Ext.drewN ?_ _ | refine Ext.drew ?_)))) g7)
          rw [← HN.out] at o7
          have HO7 := Lib.hid o7
          clear o7 g7
          go_wp2
          go_roundw
          case rel => exact Lib.hid ⟨k + 1, _, by omega, by go_num, hS.out, HO7.out, hx7.out⟩
          case measure => simp [intOf]; omega
      · obtain ⟨us, p, rfl⟩ := splitK1 (not_bad_one hn h0)
        have hS := Lib.hid (hs.star hlt hn h0)
        have e21 : nth l k = 21 := by rcases tkK_cases (nth l k) with h | h | h | h <;> omega
        have HN : Hid (endsL (us ++ [.star p]) = endsL us ++ [15]) := by unfold Hid; rw [endsL_app]; rfl
        have ho' := ho
        rw [endsL_app, show endsL [p] = [((p.ends : Nat) : Int)] from rfl] at ho'
        obtain ⟨g, cv, rfl, hB, hgs, hcell, hfz⟩ := ho'.row (by simp)
        have hlu : (endsL us ++ [((p.ends : Nat) : Int)]).length = (endsL us).length + 1 := by simp
        have d0 := hcell (endsL us).length (by simp)
        have f0 := hfz (endsL us).length
        rw [hlu] at ho' ⊢
        have hP := Lib.hid (OwnI.put1 ho' 15)
        have hel : (endsL us).length ≤ 4096 := by rw [endsL_len]; simp at hm; omega
        have hA : inB (21 : Int) 16 18 = false := by decide
        rw [e21] at hc
        clear hs hn h0 ho ho' hx hcell hfz hlu
        generalize (endsL us).length = m at *
        have hwm : IntKind.i64.wrap ((m : Int) + 1 - 1) = (m : Int) := by rw [IntWalk.i64_in _ (by omega)]; omega
        have hm1 : (m : Int) < (m : Int) + 1 := by omega
        go_wp2_with fail
        refine (actB_c _ _).mono ?_
        rw [hA]
        rintro e w' ⟨rfl, rfl⟩
        go_wp2
        go_roundw
        case rel => exact Lib.hid ⟨k + 1, us ++ [.star p], by omega, by go_num, hS.out, by rw [HN.out]; exact hP.out, Ext.setCell HX.out hB _⟩
        case measure => simp [intOf]; omega
      · obtain ⟨us, p, q, rfl⟩ := splitK2 (not_bad_two hn h0)
        have hS := Lib.hid (hs.two hlt hn h0)
        have ho' := ho
        rw [endsL_app, show endsL [p, q] = [((p.ends : Nat) : Int), ((q.ends : Nat) : Int)] from rfl] at ho'
        have hp16 := p.ends_lt
        have hq16 := q.ends_lt
        obtain ⟨g, cv, rfl, hB, hgs, hcell, hfz⟩ := ho'.row (by simp)
        have hlu : (endsL us ++ [((p.ends : Nat) : Int), ((q.ends : Nat) : Int)]).length = (endsL us).length + 2 := by simp
        have hcap := ho'.2
        have d0 : wr.cell? ⟨g, (endsL us).length, none⟩ = some (.int .i64 ((p.ends : Nat) : Int)) := by
          have := hcell (endsL us).length (by simp)
          rw [this]; congr 2; unfold nth; simp
        have d1 : wr.cell? ⟨g, (endsL us).length + 1, none⟩ = some (.int .i64 ((q.ends : Nat) : Int)) := by
          have := hcell ((endsL us).length + 1) (by simp)
          rw [this]; congr 2; unfold nth; simp
        have f0 := hfz (endsL us).length
        have hcv : (endsL us).length + 2 ≤ cv := by
          rcases hcap with ⟨hv, _⟩ | ⟨g', cap', cur, hv, _, _, hn', _⟩
          · simp at hv
          · simp only [Value.slice.injEq] at hv
            rw [hlu] at hn'; omega
        rw [hlu] at ho' ⊢
        have hP : Hid (∀ u, OwnI (wr.setCell ⟨g, (endsL us).length, none⟩ (.int .i64 u)) w.heap.size 3 (.slice (some ⟨g, 0, none⟩) ((endsL us).length + 1) cv) (endsL us ++ [u])) := fun u => OwnI.put2 ho' u
        have hel : (endsL us).length ≤ 4096 := by rw [endsL_len]; simp at hm; omega
        have hEA : Hid (∀ s, endsL (us ++ [.two s p q]) = endsL us ++ [(((Kt.two s p q).ends : Nat) : Int)]) := fun s => by rw [endsL_app]; rfl
        have hand := i64_and p.ends q.ends (by omega) (by omega)
        have hor := i64_or p.ends q.ends (by omega) (by omega)
        have h19 : Hid ((Kt.two 19 p q).ends = p.ends &&& q.ends) := rfl
        have h20 : Hid ((Kt.two 20 p q).ends = p.ends ||| q.ends) := rfl
        have e2 : nth l k = 19 ∨ nth l k = 20 := by rcases tkK_cases (nth l k) with h | h | h | h <;> omega
        clear hs hn h0 ho ho' hx hcell hfz hlu hcap
        generalize (endsL us).length = m at *
        have hwm : IntKind.i64.wrap ((m : Int) + 2 - 2) = (m : Int) := by rw [IntWalk.i64_in _ (by omega)]; omega
        have hwm1 : IntKind.i64.wrap ((m : Int) + 2 - 1) = (m : Int) + 1 := by rw [IntWalk.i64_in _ (by omega)]; omega
        have hw0 : IntKind.i64.wrap (m : Int) = (m : Int) := IntWalk.i64_in _ (by omega)
        have hl0 : (m : Int) < (m : Int) + 2 := by omega
        have hl1x : (m : Int) + 1 < (m : Int) + 2 := by omega
        have hl2 : 0 ≤ (m : Int) + 1 := by omega
        have hmc : (m : Int) ≤ cv := by omega
        have hmc1 : m + 1 ≤ cv := by omega
        have hm1 : ((m : Int) + 1).toNat = m + 1 := by omega
        rcases e2 with e2 | e2
        · rw [e2] at hc hS
          have hA : inB (19 : Int) 16 18 = false := by decide
          go_wp2_with fail
          refine (actB_c _ _).mono ?_
          rw [hA]
          rintro e w' ⟨rfl, rfl⟩
          go_wp2
          go_region
          go_wp2
          go_roundw
          case rel => exact Lib.hid ⟨k + 1, us ++ [.two 19 p q], by omega, by go_num, hS.out, by rw [hEA.out, h19.out]; exact (hP.out _).ext (by (repeat (first | exact Ext.refl _ | assumption | refine Ext.alloc ?_ _ | refine Ext.drewN ?_ _ | refine Ext.drew ?_))), (Ext.setCell HX.out hB _).trans (by (repeat (first | exact Ext.refl _ | assumption | refine Ext.alloc ?_ _ | refine Ext.drewN ?_ _ | refine Ext.drew ?_)))⟩
          case measure => simp [intOf]; omega
        · rw [e2] at hc hS
          have hA : inB (20 : Int) 16 18 = false := by decide
          go_wp2_with fail
          refine (actB_c _ _).mono ?_
          rw [hA]
          rintro e w' ⟨rfl, rfl⟩
          go_wp2
          go_region
          go_wp2
          go_roundw
          case rel => exact Lib.hid ⟨k + 1, us ++ [.two 20 p q], by omega, by go_num, hS.out, by rw [hEA.out, h20.out]; exact (hP.out _).ext (by (repeat (first | exact Ext.refl _ | assumption | refine Ext.alloc ?_ _ | refine Ext.drewN ?_ _ | refine Ext.drew ?_))), (Ext.setCell HX.out hB _).trans (by (repeat (first | exact Ext.refl _ | assumption | refine Ext.alloc ?_ _ | refine Ext.drewN ?_ _ | refine Ext.drew ?_)))⟩
          case measure => simp [intOf]; omega
    · obtain rfl : k = l.length := by omega
      obtain rfl := HF.out ts hs
      have ho' := ho
      rw [show endsL [t] = [((t.ends : Nat) : Int)] from rfl] at ho'
      obtain ⟨g, cv, rfl, hB, hgs, hcell, -⟩ := ho'.row (by simp)
      have hc := hcell 0 (by simp)
      have hl1' : ([((t.ends : Nat) : Int)] : List Int).length = 1 := rfl
      rw [hl1']
      have hc : wr.cell? ⟨g, 0, none⟩ = some (.int .i64 ((t.ends : Nat) : Int)) := hc
      clear ho ho' hx hs hcell
      go_wp2
      go_ret
      exact ⟨rfl, HX.out.trans (by (repeat (first | exact Ext.refl _ | assumption | refine Ext.alloc ?_ _ | refine Ext.drewN ?_ _ | refine Ext.drew ?_)))⟩
end Go.Proofs.YtlaamecfknkmlaaGreat
