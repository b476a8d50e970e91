/- Merged texts: contracts and plain lemmas (Rows3). -/
import Derived.Test.YtlaamecfknkmlaaDoorMh5
/- Plain law: a row more at the end of slices of slices of the call's own. No program in sight. -/
namespace Go.Kt
set_option linter.unusedVariables false
open Go.RowKit

theorem own_types_apart {w : World} {B B' E E' s s' n n' : Nat} {v u : Value} {xs ys : List Value} (h : w.ownsRow B E s v n xs) (k : w.ownsRow B' E' s' u n' ys) (hE : E ≠ E') : v.ownBlock = none ∨ v.ownBlock ≠ u.ownBlock := by
  rcases h.2 with ⟨rfl, _⟩ | ⟨g, cap, cur, rfl, _, hgg, _⟩
  · exact .inl rfl
  · rcases k.2 with ⟨rfl, _⟩ | ⟨g', cap', cur', rfl, _, hgg', _⟩
    · right; simp [Value.ownBlock]
    · right
      intro he
      simp only [Value.ownBlock, Option.some.injEq] at he
      subst he
      rw [hgg] at hgg'
      simp only [Option.some.injEq, Obj.cells.injEq] at hgg'
      exact hE hgg'.2.1
theorem rowI_append_old (ll : List (List Int)) (r : List Int) (i : Nat) (h : i < ll.length) : rowI (ll ++ [r]) i = rowI ll i := by
  simp [rowI, List.getD, List.getElem?_append_left h]
theorem rowI_append_new (ll : List (List Int)) (r : List Int) : rowI (ll ++ [r]) ll.length = r := by
  simp [rowI, List.getD]

theorem OwnR.nil (w : World) (E ER : Nat) : OwnR w w.heap.size w.heap.size E ER (.slice none 0 0) [] :=
  ⟨Nat.le_refl _, Nat.le_refl _, [], ⟨rfl, .inl ⟨rfl, rfl⟩⟩, fun g hg => by simp [Value.ownBlock] at hg, fun i hi => absurd hi (Nat.not_lt_zero _), fun i j x y hi => absurd hi (Nat.not_lt_zero _)⟩

theorem OwnR.append {w : World} {B T E ER : Nat} {v : Value} {ll : List (List Int)} (hE : E ≠ ER) (h : OwnR w B T E ER v ll) :
    ∃ vs, w.ownsRow B ER 1 v ll.length vs ∧ ∀ w' v' u r, OwnI w T E u r → w'.ownsRow B ER 1 v' (ll.length + 1) (vs ++ [u]) → w.grownBy w' v.ownBlock → OwnR w' B w'.heap.size E ER v' (ll ++ [r]) := by
  obtain ⟨vs, h1, h2, h3, h4⟩ := OwnRk.outer h
  refine ⟨vs, h1, fun w' v' u r hu h1' hg => ?_⟩
  have hvl : vs.length = ll.length := by have := h1.1; omega
  have hll : (ll ++ [r]).length = ll.length + 1 := by simp
  have hus := World.ownsRow.lt hu
  have huv : u.ownBlock = none ∨ u.ownBlock ≠ v.ownBlock := by
    cases hb : u.ownBlock with
    | none => exact .inl rfl
    | some g =>
      right; intro he
      have := (hus g hb).1
      have := h2 g he.symm
      omega
  have hu' : OwnI w' T E u r := World.ownsRow.kept hu hg huv
  obtain ⟨au, cu, rfl, _⟩ := hu.shape
  refine ⟨Nat.le_trans (Nat.le_trans (OwnRk.base h) (OwnRk.top h)) hg.size, Nat.le_refl _, vs ++ [.slice au r.length cu], by rw [hll]; exact h1', fun g hg' => (World.ownsRow.lt h1' g hg').2, fun i hi => ?_, fun i j x y hi hj hij hx hy => ?_⟩
  · rw [hll] at hi
    by_cases hil : i < ll.length
    · obtain ⟨ai, ci, e1, e2, e3, e4⟩ := h3 i hil
      rw [rowI_append_old ll r i hil]
      have e2' : OwnI w' B E (.slice ai (rowI ll i).length ci) (rowI ll i) := World.ownsRow.kept e2 hg e4
      refine ⟨ai, ci, by rw [List.getElem?_append_left (by omega)]; exact e1, e2', fun g hg' => Nat.lt_of_lt_of_le (Nat.lt_of_lt_of_le (e3 g hg') (OwnRk.top h)) hg.size, own_types_apart e2' h1' hE⟩
    · obtain rfl : i = ll.length := by omega
      rw [rowI_append_new]
      have e2' : OwnI w' B E (.slice au r.length cu) r := own_mono hu' (OwnRk.base h)
      refine ⟨au, cu, by rw [← hvl]; simp, e2', fun g hg' => (World.ownsRow.lt e2' g hg').2, own_types_apart e2' h1' hE⟩
  · rw [hll] at hi hj
    by_cases hil : i < ll.length
    · rw [List.getElem?_append_left (by omega)] at hx
      by_cases hjl : j < ll.length
      · rw [List.getElem?_append_left (by omega)] at hy
        exact h4 i j x y hil hjl hij hx hy
      · obtain rfl : j = ll.length := by omega
        rw [← hvl] at hy
        simp only [List.getElem?_concat_length, Option.some.injEq] at hy
        subst hy
        obtain ⟨ai, ci, e1, e2, e3, e4⟩ := h3 i hil
        rw [e1] at hx
        simp only [Option.some.injEq] at hx
        subst hx
        cases hb : (Value.slice ai (rowI ll i).length ci).ownBlock with
        | none => exact .inl rfl
        | some g =>
          right; intro he
          have := e3 g hb
          have := (hus g he.symm).1
          omega
    · obtain rfl : i = ll.length := by omega
      have hjl : j < ll.length := by omega
      rw [List.getElem?_append_left (by omega)] at hy
      rw [← hvl] at hx
      simp only [List.getElem?_concat_length, Option.some.injEq] at hx
      subst hx
      obtain ⟨aj, cj, e1, e2, e3, e4⟩ := h3 j hjl
      rw [e1] at hy
      simp only [Option.some.injEq] at hy
      subst hy
      cases hb : (Value.slice au r.length cu).ownBlock with
      | none => exact .inl rfl
      | some g =>
        right; intro he
        have := e3 g he.symm
        have := (hus g hb).1
        omega

/-- append(s, u) of a row, at a step of a region that draws its order. -/
theorem step_append_row {P : Program} {ops : Array Oper} {o : Oper} {a : Act} {K : Act → World → Prop} {Q : Exit → Act → World → Prop} {X : Prop} {w : World} (hgd : o.guard = none) (s x : Operand) (t : TypeId)
    (ho : o.op = .call { callee := .builtin .append, args := #[s, x], argTypes := #[t, t] }) (B T E ER : Nat) (hE : E ≠ ER) (ht : P.underlying t = some (.slice ER))
    (hinfo : (P.info? ER).map (fun i => (i.zero, i.size, i.bytes)) = some (some (.slice none 0 0), 1, 24))
    (v : Value) (ll : List (List Int)) (hs : a.eval s = v) (hown : OwnR w B T E ER v ll) (g : Nat) (u : Value) (r : List Int) (hu : OwnI w T E u r) (hx : a.eval x = .slice (some ⟨g, 0, none⟩) 1 1) (hcell : w.cell? ⟨g, 0, none⟩ = some u)
    (hlen : ll.length + 1 ≤ 1099511627776)
    (h : ∀ v' w', OwnR w' B w'.heap.size E ER v' (ll ++ [r]) → w.grownBy w' v.ownBlock → K (a.put o.dst v') w') :
    if Region.wanted o (yielded ops a.tmps) = true then Oper.wp P o a w K Q else X := by
  have hw : Region.wanted o (yielded ops a.tmps) = true := by simp [Region.wanted, hgd]
  rw [if_pos hw]
  obtain ⟨i, hi, hz0, hz1, hz2⟩ := info_parts hinfo
  obtain ⟨vs, h1, hk⟩ := OwnR.append hE hown
  have hBw : B ≤ w.heap.size := Nat.le_trans (OwnRk.base hown) (OwnRk.top hown)
  refine wp_append_own w s x t ho B ER i (.slice none 0 0) 1 24 ht hi hz0 hz1 hz2 rfl (by decide) v ll.length vs hs h1 ⟨g, 0, none⟩ 1 1 [u] hx rfl ?_ ?_ (by unfold maxLen; omega) (by omega) hBw ?_
  · intro j u' hj
    match j, hj with
    | 0, hj =>
      simp only [List.getElem?_cons_zero, Option.some.injEq] at hj
      subst hj
      simpa [Addr.add] using hcell
    | j + 1, hj => simp at hj
  · intro u' hu'
    simp only [List.mem_singleton] at hu'
    subst hu'
    obtain ⟨au, cu, rfl, _⟩ := hu.shape
    rfl
  · intro v' w' h1' h2' _
    exact h v' w' (hk w' v' u r hu h1' h2') h2'
theorem OwnR.grown {w0 w w' : World} {T E ER : Nat} {v : Value} {ll : List (List Int)} (h : OwnR w w0.heap.size T E ER v ll) (hx : Ext w0 w) (hg : w.grownBy w' v.ownBlock) : Ext w0 w' := by
  obtain ⟨vs, h1, h2, _⟩ := OwnRk.outer h
  exact (Touched.of_grown (B := w0.heap.size) (T := T) hg (fun g hg' => ⟨(World.ownsRow.lt h1 g hg').1, h2 g hg'⟩)).ext hx (Nat.le_refl _)

theorem OwnR.touched {w w' : World} {B T E ER : Nat} {v : Value} {ll : List (List Int)} (h : OwnR w B T E ER v ll) (hg : w.grownBy w' v.ownBlock) : Touched w w' B T := by
  obtain ⟨vs, h1, h2, _⟩ := OwnRk.outer h
  exact Touched.of_grown hg (fun g hg' => ⟨(World.ownsRow.lt h1 g hg').1, h2 g hg'⟩)
theorem OwnR.stored {w : World} {B E ER : Nat} {v : Value} {ll : List (List Int)} (h : OwnR w B w.heap.size E ER v ll) {p : Addr} (hp : p.block < B) (u : Value) : OwnR (w.setCell p u) B (w.setCell p u).heap.size E ER v ll := by
  have := h.setOld hp u
  simpa using this

/-- What Back makes of the first k rows. -/
def mapRows (f : List Int → List Int) (ll : List (List Int)) (k : Nat) : List (List Int) := (List.range k).map fun i => f (rowI ll i)
theorem mapRows_succ (f : List Int → List Int) (ll : List (List Int)) (k : Nat) : mapRows f ll (k + 1) = mapRows f ll k ++ [f (rowI ll k)] := by
  simp [mapRows, List.range_succ]
theorem mapRows_length (f : List Int → List Int) (ll : List (List Int)) (k : Nat) : (mapRows f ll k).length = k := by simp [mapRows]
theorem mapRows_row (f : List Int → List Int) (ll : List (List Int)) (k i : Nat) (h : i < k) : rowI (mapRows f ll k) i = f (rowI ll i) := by
  rw [rowI_getElem _ _ (by rw [mapRows_length]; exact h)]; simp [mapRows]

/-- A block of which nothing is frozen. -/
def Thawed (w : World) (b : Nat) : Prop := b < w.heap.size ∧ ∀ o, w.frozen? ⟨b, o, none⟩ = false
theorem Thawed.ext {w w' : World} {b : Nat} (h : Thawed w b) (e : Ext w w') : Thawed w' b := ⟨Nat.lt_of_lt_of_le h.1 e.size, fun o => by rw [e.cells.2 b o h.1]; exact h.2 o⟩
theorem Thawed.untouched {w w' : World} {b B T : Nat} (h : Thawed w b) (t : Touched w w' B T) (hb : b < B ∨ T ≤ b) : Thawed w' b := by
  refine ⟨Nat.lt_of_lt_of_le h.1 t.size, fun o => ?_⟩
  have e := t.block b h.1 hb
  exact (World.frozen?_of_block (a := ⟨b, o, none⟩) e).trans (h.2 o)
theorem BoxM.setRow {w : World} {b : Nat} {st p q : Int} {v v' : Value} (h : BoxM w b st p q v) : BoxM (w.setCell ⟨b, 3, none⟩ v') b st p q v' := by
  obtain ⟨h0, h1, h2, h3⟩ := h
  simp [BoxM, go_sem, h0, h1, h2, h3]
theorem BoxM.setOther {w : World} {b c : Nat} {st p q : Int} {v v' : Value} {i : Nat} (h : BoxM w b st p q v) (hne : b ≠ c) : BoxM (w.setCell ⟨c, i, none⟩ v') b st p q v :=
  h.untouched (Touched.setCell w _ _) (by simp; omega)
theorem Thawed.setCell {w : World} {b : Nat} (h : Thawed w b) (x : Addr) (u : Value) : Thawed (w.setCell x u) b := ⟨by simpa using h.1, fun o => by simpa using h.2 o⟩
end Go.Kt
