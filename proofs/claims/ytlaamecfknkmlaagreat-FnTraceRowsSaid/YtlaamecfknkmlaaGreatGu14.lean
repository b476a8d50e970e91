/- Merged texts: contracts and plain lemmas (Rows3, R). -/
import Derived.Test.YtlaamecfknkmlaaGreatGu13
import Derived.IntWalk
import Derived.BigQuiet
/- Plain law: a row more at the end of slices of slices of the call's own. No program in sight. -/
namespace Go.Kt
set_option linter.unusedVariables false
open Go.RowKit

theorem own_types_apart {w : World} {B B' E E' s s' n n' : Nat} {v u : Value} {xs ys : List Value} (h : w.ownsRow B E s v n xs) (k : w.ownsRow B' E' s' u n' ys) (hE : E ≠ E') : v.ownBlock = none ∨ v.ownBlock ≠ u.ownBlock := by
  rcases h.2 with ⟨rfl, _⟩ | ⟨g, cap, cur, rfl, _, hgg, _⟩
  · exact .inl rfl
  · rcases k.2 with ⟨rfl, _⟩ | ⟨g', cap', cur', rfl, _, hgg', _⟩
    · right; simp [Value.ownBlock]
    · right
      intro he
      simp only [Value.ownBlock, Option.some.injEq] at he
      subst he
      rw [hgg] at hgg'
      simp only [Option.some.injEq, Obj.cells.injEq] at hgg'
      exact hE hgg'.2.1
theorem rowI_append_old (ll : List (List Int)) (r : List Int) (i : Nat) (h : i < ll.length) : rowI (ll ++ [r]) i = rowI ll i := by
  simp [rowI, List.getD, List.getElem?_append_left h]
theorem rowI_append_new (ll : List (List Int)) (r : List Int) : rowI (ll ++ [r]) ll.length = r := by
  simp [rowI, List.getD]

theorem OwnR.nil (w : World) (E ER : Nat) : OwnR w w.heap.size w.heap.size E ER (.slice none 0 0) [] :=
  ⟨Nat.le_refl _, Nat.le_refl _, [], ⟨rfl, .inl ⟨rfl, rfl⟩⟩, fun g hg => by simp [Value.ownBlock] at hg, fun i hi => absurd hi (Nat.not_lt_zero _), fun i j x y hi => absurd hi (Nat.not_lt_zero _)⟩

theorem OwnR.append {w : World} {B T E ER : Nat} {v : Value} {ll : List (List Int)} (hE : E ≠ ER) (h : OwnR w B T E ER v ll) :
    ∃ vs, w.ownsRow B ER 1 v ll.length vs ∧ ∀ w' v' u r, OwnI w T E u r → w'.ownsRow B ER 1 v' (ll.length + 1) (vs ++ [u]) → w.grownBy w' v.ownBlock → OwnR w' B w'.heap.size E ER v' (ll ++ [r]) := by
  obtain ⟨vs, h1, h2, h3, h4⟩ := OwnRk.outer h
  refine ⟨vs, h1, fun w' v' u r hu h1' hg => ?_⟩
  have hvl : vs.length = ll.length := by have := h1.1; omega
  have hll : (ll ++ [r]).length = ll.length + 1 := by simp
  have hus := World.ownsRow.lt hu
  have huv : u.ownBlock = none ∨ u.ownBlock ≠ v.ownBlock := by
    cases hb : u.ownBlock with
    | none => exact .inl rfl
    | some g =>
      right; intro he
      have := (hus g hb).1
      have := h2 g he.symm
      omega
  have hu' : OwnI w' T E u r := World.ownsRow.kept hu hg huv
  obtain ⟨au, cu, rfl, _⟩ := hu.shape
  refine ⟨Nat.le_trans (Nat.le_trans (OwnRk.base h) (OwnRk.top h)) hg.size, Nat.le_refl _, vs ++ [.slice au r.length cu], by rw [hll]; exact h1', fun g hg' => (World.ownsRow.lt h1' g hg').2, fun i hi => ?_, fun i j x y hi hj hij hx hy => ?_⟩
  · rw [hll] at hi
    by_cases hil : i < ll.length
    · obtain ⟨ai, ci, e1, e2, e3, e4⟩ := h3 i hil
      rw [rowI_append_old ll r i hil]
      have e2' : OwnI w' B E (.slice ai (rowI ll i).length ci) (rowI ll i) := World.ownsRow.kept e2 hg e4
      refine ⟨ai, ci, by rw [List.getElem?_append_left (by omega)]; exact e1, e2', fun g hg' => Nat.lt_of_lt_of_le (Nat.lt_of_lt_of_le (e3 g hg') (OwnRk.top h)) hg.size, own_types_apart e2' h1' hE⟩
    · obtain rfl : i = ll.length := by omega
      rw [rowI_append_new]
      have e2' : OwnI w' B E (.slice au r.length cu) r := own_mono hu' (OwnRk.base h)
      refine ⟨au, cu, by rw [← hvl]; simp, e2', fun g hg' => (World.ownsRow.lt e2' g hg').2, own_types_apart e2' h1' hE⟩
  · rw [hll] at hi hj
    by_cases hil : i < ll.length
    · rw [List.getElem?_append_left (by omega)] at hx
      by_cases hjl : j < ll.length
      · rw [List.getElem?_append_left (by omega)] at hy
        exact h4 i j x y hil hjl hij hx hy
      · obtain rfl : j = ll.length := by omega
        rw [← hvl] at hy
        simp only [List.getElem?_concat_length, Option.some.injEq] at hy
        subst hy
        obtain ⟨ai, ci, e1, e2, e3, e4⟩ := h3 i hil
        rw [e1] at hx
        simp only [Option.some.injEq] at hx
        subst hx
        cases hb : (Value.slice ai (rowI ll i).length ci).ownBlock with
        | none => exact .inl rfl
        | some g =>
          right; intro he
          have := e3 g hb
          have := (hus g he.symm).1
          omega
    · obtain rfl : i = ll.length := by omega
      have hjl : j < ll.length := by omega
      rw [List.getElem?_append_left (by omega)] at hy
      rw [← hvl] at hx
      simp only [List.getElem?_concat_length, Option.some.injEq] at hx
      subst hx
      obtain ⟨aj, cj, e1, e2, e3, e4⟩ := h3 j hjl
      rw [e1] at hy
      simp only [Option.some.injEq] at hy
      subst hy
      cases hb : (Value.slice au r.length cu).ownBlock with
      | none => exact .inl rfl
      | some g =>
        right; intro he
        have := e3 g he.symm
        have := (hus g hb).1
        omega

/-- append(s, u) of a row, at a step of a region that draws its order. -/
theorem step_append_row {P : Program} {ops : Array Oper} {o : Oper} {a : Act} {K : Act → World → Prop} {Q : Exit → Act → World → Prop} {X : Prop} {w : World} (hgd : o.guard = none) (s x : Operand) (t : TypeId)
    (ho : o.op = .call { callee := .builtin .append, args := #[s, x], argTypes := #[t, t] }) (B T E ER : Nat) (hE : E ≠ ER) (ht : P.underlying t = some (.slice ER))
    (hinfo : (P.info? ER).map (fun i => (i.zero, i.size, i.bytes)) = some (some (.slice none 0 0), 1, 24))
    (v : Value) (ll : List (List Int)) (hs : a.eval s = v) (hown : OwnR w B T E ER v ll) (g : Nat) (u : Value) (r : List Int) (hu : OwnI w T E u r) (hx : a.eval x = .slice (some ⟨g, 0, none⟩) 1 1) (hcell : w.cell? ⟨g, 0, none⟩ = some u)
    (hlen : ll.length + 1 ≤ 1099511627776)
    (h : ∀ v' w', OwnR w' B w'.heap.size E ER v' (ll ++ [r]) → w.grownBy w' v.ownBlock → K (a.put o.dst v') w') :
    if Region.wanted o (yielded ops a.tmps) = true then Oper.wp P o a w K Q else X := by
  have hw : Region.wanted o (yielded ops a.tmps) = true := by simp [Region.wanted, hgd]
  rw [if_pos hw]
  obtain ⟨i, hi, hz0, hz1, hz2⟩ := info_parts hinfo
  obtain ⟨vs, h1, hk⟩ := OwnR.append hE hown
  have hBw : B ≤ w.heap.size := Nat.le_trans (OwnRk.base hown) (OwnRk.top hown)
  refine wp_append_own w s x t ho B ER i (.slice none 0 0) 1 24 ht hi hz0 hz1 hz2 rfl (by decide) v ll.length vs hs h1 ⟨g, 0, none⟩ 1 1 [u] hx rfl ?_ ?_ (by unfold maxLen; omega) (by omega) hBw ?_
  · intro j u' hj
    match j, hj with
    | 0, hj =>
      simp only [List.getElem?_cons_zero, Option.some.injEq] at hj
      subst hj
      simpa [Addr.add] using hcell
    | j + 1, hj => simp at hj
  · intro u' hu'
    simp only [List.mem_singleton] at hu'
    subst hu'
    obtain ⟨au, cu, rfl, _⟩ := hu.shape
    rfl
  · intro v' w' h1' h2' _
    exact h v' w' (hk w' v' u r hu h1' h2') h2'
theorem OwnR.grown {w0 w w' : World} {T E ER : Nat} {v : Value} {ll : List (List Int)} (h : OwnR w w0.heap.size T E ER v ll) (hx : Ext w0 w) (hg : w.grownBy w' v.ownBlock) : Ext w0 w' := by
  obtain ⟨vs, h1, h2, _⟩ := OwnRk.outer h
  exact (Touched.of_grown (B := w0.heap.size) (T := T) hg (fun g hg' => ⟨(World.ownsRow.lt h1 g hg').1, h2 g hg'⟩)).ext hx (Nat.le_refl _)

theorem OwnR.touched {w w' : World} {B T E ER : Nat} {v : Value} {ll : List (List Int)} (h : OwnR w B T E ER v ll) (hg : w.grownBy w' v.ownBlock) : Touched w w' B T := by
  obtain ⟨vs, h1, h2, _⟩ := OwnRk.outer h
  exact Touched.of_grown hg (fun g hg' => ⟨(World.ownsRow.lt h1 g hg').1, h2 g hg'⟩)
theorem OwnR.stored {w : World} {B E ER : Nat} {v : Value} {ll : List (List Int)} (h : OwnR w B w.heap.size E ER v ll) {p : Addr} (hp : p.block < B) (u : Value) : OwnR (w.setCell p u) B (w.setCell p u).heap.size E ER v ll := by
  have := h.setOld hp u
  simpa using this

/-- What Back makes of the first k rows. -/
def mapRows (f : List Int → List Int) (ll : List (List Int)) (k : Nat) : List (List Int) := (List.range k).map fun i => f (rowI ll i)
theorem mapRows_succ (f : List Int → List Int) (ll : List (List Int)) (k : Nat) : mapRows f ll (k + 1) = mapRows f ll k ++ [f (rowI ll k)] := by
  simp [mapRows, List.range_succ]
theorem mapRows_length (f : List Int → List Int) (ll : List (List Int)) (k : Nat) : (mapRows f ll k).length = k := by simp [mapRows]
theorem mapRows_row (f : List Int → List Int) (ll : List (List Int)) (k i : Nat) (h : i < k) : rowI (mapRows f ll k) i = f (rowI ll i) := by
  rw [rowI_getElem _ _ (by rw [mapRows_length]; exact h)]; simp [mapRows]

/-- A block of which nothing is frozen. -/
def Thawed (w : World) (b : Nat) : Prop := b < w.heap.size ∧ ∀ o, w.frozen? ⟨b, o, none⟩ = false
theorem Thawed.ext {w w' : World} {b : Nat} (h : Thawed w b) (e : Ext w w') : Thawed w' b := ⟨Nat.lt_of_lt_of_le h.1 e.size, fun o => by rw [e.cells.2 b o h.1]; exact h.2 o⟩
theorem Thawed.untouched {w w' : World} {b B T : Nat} (h : Thawed w b) (t : Touched w w' B T) (hb : b < B ∨ T ≤ b) : Thawed w' b := by
  refine ⟨Nat.lt_of_lt_of_le h.1 t.size, fun o => ?_⟩
  have e := t.block b h.1 hb
  exact (World.frozen?_of_block (a := ⟨b, o, none⟩) e).trans (h.2 o)
theorem BoxM.setRow {w : World} {b : Nat} {st p q : Int} {v v' : Value} (h : BoxM w b st p q v) : BoxM (w.setCell ⟨b, 3, none⟩ v') b st p q v' := by
  obtain ⟨h0, h1, h2, h3⟩ := h
  simp [BoxM, go_sem, h0, h1, h2, h3]
theorem BoxM.setOther {w : World} {b c : Nat} {st p q : Int} {v v' : Value} {i : Nat} (h : BoxM w b st p q v) (hne : b ≠ c) : BoxM (w.setCell ⟨c, i, none⟩ v') b st p q v :=
  h.untouched (Touched.setCell w _ _) (by simp; omega)
theorem Thawed.setCell {w : World} {b : Nat} (h : Thawed w b) (x : Addr) (u : Value) : Thawed (w.setCell x u) b := ⟨by simpa using h.1, fun o => by simpa using h.2 o⟩
end Go.Kt
/- Contracts: the reader that draws arguments from bytes. -/
namespace Go.Proofs.YtlaamecfknkmlaaGreat
set_option linter.unusedVariables false
open Go.RowKit Go.Kt

/-- The block g is a reader over bytes that lie in an older block; it has picked at most m times. -/
structure Rd (w : World) (g m : Nat) : Prop where
  pos : ∃ p : Nat, p ≤ m ∧ w.cell? ⟨g, 1, none⟩ = some (.int .i64 p)
  src : ∃ a cap l b off, w.cell? ⟨g, 0, none⟩ = some (.slice a l.length cap) ∧ l.length ≤ 2000 ∧ (0 < l.length → a = some ⟨b, off, none⟩ ∧ b < g) ∧
    ∀ i, i < l.length → w.cell? ⟨b, off + i, none⟩ = some (.int .u8 (nth l i)) ∧ 0 ≤ nth l i ∧ nth l i ≤ 255
  thaw : Thawed w g
theorem Rd.lt {w : World} {g m : Nat} (h : Rd w g m) : g < w.heap.size := h.thaw.1
theorem Rd.ext {w w' : World} {g m : Nat} (h : Rd w g m) (e : Ext w w') : Rd w' g m := by
  have hg := h.lt
  obtain ⟨p, hp, hc⟩ := h.pos
  obtain ⟨a, cap, l, b, off, h1, h2, h3, h4⟩ := h.src
  exact ⟨⟨p, hp, e.cell' hc hg⟩, ⟨a, cap, l, b, off, e.cell' h1 hg, h2, h3, fun i hi => ⟨e.cell' (h4 i hi).1 (by have := (h3 (by omega)).2; omega), (h4 i hi).2⟩⟩, h.thaw.ext e⟩
theorem Rd.mono {w : World} {g m m' : Nat} (h : Rd w g m) (hm : m ≤ m') : Rd w g m' := by
  obtain ⟨p, hp, hc⟩ := h.pos
  exact ⟨⟨p, by omega, hc⟩, h.src, h.thaw⟩
/-- Blocks behind the reader, or older ones than its bytes, may turn. -/
theorem Rd.untouched {w w' : World} {g m B T : Nat} (h : Rd w g m) (t : Touched w w' B T) (hg : g < B) : Rd w' g m := by
  have hl := h.lt
  have cc : ∀ b o v, b ≤ g → w.cell? ⟨b, o, none⟩ = some v → w'.cell? ⟨b, o, none⟩ = some v := fun b o v hb hv =>
    (World.cell?_of_block (a := ⟨b, o, none⟩) (t.block b (by omega) (.inl (by omega)))).trans hv
  obtain ⟨p, hp, hc⟩ := h.pos
  obtain ⟨a, cap, l, b, off, h1, h2, h3, h4⟩ := h.src
  exact ⟨⟨p, hp, cc _ _ _ (Nat.le_refl _) hc⟩, ⟨a, cap, l, b, off, cc _ _ _ (Nat.le_refl _) h1, h2, h3, fun i hi => ⟨cc _ _ _ (by have := (h3 (by omega)).2; omega) (h4 i hi).1, (h4 i hi).2⟩⟩, h.thaw.untouched t (.inl hg)⟩
/-- The count is set. -/
theorem Rd.set {w : World} {g m : Nat} (h : Rd w g m) (p m' : Nat) (hp : p ≤ m') : Rd (w.setCell ⟨g, 1, none⟩ (.int .i64 p)) g m' := by
  obtain ⟨p0, hp0, hc⟩ := h.pos
  obtain ⟨a, cap, l, b, off, h1, h2, h3, h4⟩ := h.src
  refine ⟨⟨p, hp, by simp [go_sem, hc]⟩, ⟨a, cap, l, b, off, by simp [go_sem, h1], h2, h3, fun i hi => ⟨?_, (h4 i hi).2⟩⟩, h.thaw.setCell _ _⟩
  have := (h3 (by omega)).2
  simp [go_sem, (h4 i hi).1]
/-- What a draw of a number comes to. -/
def Drew (w : World) (g m : Nat) (n : Int) (e : Ending) (w' : World) : Prop :=
  ∃ x : Nat, e = .returned (.int .i64 x) ∧ ((x : Int) < n ∨ (n < 1 ∧ x = 0)) ∧ Rd w' g (m + 1) ∧ Touched w w' g (g + 1)

set_option maxHeartbeats 1000000 in
theorem pick_c (g m : Nat) (n : Int) (w : World) (h : Rd w g m) (hm : m ≤ 1000000) :
    Calls Tryz.prog 54 #[.pointer (some ⟨g, 0, none⟩), .int .i64 n] w (Drew w g m n) := by
  have H := Lib.hid h
  obtain ⟨p, hp, hc⟩ := h.pos
  obtain ⟨a, cap, l, b, off, h1, h2, h3, h4⟩ := h.src
  have hg := h.lt
  have hf := h.thaw.2 1
  have H3 := Lib.hid h3
  have H4 := Lib.hid h4
  have HD : Hid (Rd (w.setCell ⟨g, 1, none⟩ (.int .i64 ((p + 1 : Nat) : Int))) g (m + 1) ∧ Touched w (w.setCell ⟨g, 1, none⟩ (.int .i64 ((p + 1 : Nat) : Int))) g (g + 1)) := ⟨h.set _ _ (by omega), Touched.setCell _ _ _⟩
  have hcast : (((p + 1 : Nat)) : Int) = (p : Int) + 1 := by omega
  rw [hcast] at HD
  clear h h3 h4 hcast
  by_cases hn : n < 1
  · go_enter Tryz.func54, Tryz.ntmps54
    go_wp2
    go_ret
    exact ⟨0, rfl, .inr ⟨hn, rfl⟩, HD.out.1, HD.out.2⟩
  · by_cases hl : l.length = 0
    · go_enter Tryz.func54, Tryz.ntmps54
      go_wp2
      go_ret
      exact ⟨0, rfl, .inl (by omega), HD.out.1, HD.out.2⟩
    · obtain ⟨N, rfl⟩ := Int.eq_ofNat_of_zero_le (show 0 ≤ n by omega)
      have hN : 0 < N := by omega
      obtain ⟨rfl, hbg⟩ := H3.out (by omega)
      have hbne : ¬ b = g := by omega
      by_cases hk : p < l.length
      · obtain ⟨hcb, hb0, hb1⟩ := H4.out p hk
        obtain ⟨B, hB⟩ := Int.eq_ofNat_of_zero_le hb0
        rw [hB] at hcb hb1
        have hB1 : B ≤ 255 := by omega
        have ht : ((B : Int)).tmod (N : Int) = ((B % N : Nat) : Int) := rfl
        have hlt : B % N < N := Nat.mod_lt _ hN
        have hN0 : ((N : Int) == 0) = false := by simp; omega
        clear hB hb0 hb1
        go_enter Tryz.func54, Tryz.ntmps54
        go_wp2
        go_ret
        exact ⟨B % N, rfl, .inl (by omega), HD.out.1, HD.out.2⟩
      · have hL : 0 < l.length := by omega
        have hL0 : ((l.length : Int) == 0) = false := by rw [beq_eq_false_iff_ne]; omega
        have hN0 : ((N : Int) == 0) = false := by simp; omega
        have hi1 : p % l.length < l.length := Nat.mod_lt _ hL
        have hi2 : (p * 7 + 3) % l.length < l.length := Nat.mod_lt _ hL
        have hq : p / l.length ≤ p := Nat.div_le_self _ _
        have e1 : ((p : Int)).tmod (l.length : Int) = ((p % l.length : Nat) : Int) := rfl
        have e2 : ((p : Int) * 7 + 3).tmod (l.length : Int) = (((p * 7 + 3) % l.length : Nat) : Int) := rfl
        have e3 : ((p : Int)).tdiv (l.length : Int) = ((p / l.length : Nat) : Int) := rfl
        obtain ⟨hc1, hb10, hb11⟩ := H4.out _ hi1
        obtain ⟨hc2, hb20, hb21⟩ := H4.out _ hi2
        obtain ⟨X1, hX1⟩ := Int.eq_ofNat_of_zero_le hb10
        obtain ⟨X2, hX2⟩ := Int.eq_ofNat_of_zero_le hb20
        rw [hX1] at hc1 hb11
        rw [hX2] at hc2 hb21
        have hx1 : X1 ≤ 255 := by omega
        have hx2 : X2 ≤ 255 := by omega
        clear hX1 hX2 hb10 hb11 hb20 hb21
        generalize p % l.length = i1 at *
        generalize (p * 7 + 3) % l.length = i2 at *
        generalize p / l.length = q at *
        have f1 : IntKind.i64.wrap ((p : Int) * 7) = (p : Int) * 7 := IntWalk.i64_in _ (by omega)
        have f2 : IntKind.i64.wrap ((p : Int) * 7 + 3) = (p : Int) * 7 + 3 := IntWalk.i64_in _ (by omega)
        have f3 : IntKind.i64.wrap ((X1 : Int) * 131) = (X1 : Int) * 131 := IntWalk.i64_in _ (by omega)
        have f4 : IntKind.i64.wrap ((X2 : Int) * 1117) = (X2 : Int) * 1117 := IntWalk.i64_in _ (by omega)
        have f5 : IntKind.i64.wrap ((X1 : Int) * 131 + (X2 : Int) * 1117) = (X1 : Int) * 131 + (X2 : Int) * 1117 := IntWalk.i64_in _ (by omega)
        have f6 : IntKind.i64.wrap ((p : Int) * 29) = (p : Int) * 29 := IntWalk.i64_in _ (by omega)
        have f7 : IntKind.i64.wrap ((X1 : Int) * 131 + (X2 : Int) * 1117 + (p : Int) * 29) = (X1 : Int) * 131 + (X2 : Int) * 1117 + (p : Int) * 29 := IntWalk.i64_in _ (by omega)
        have f8 : IntKind.i64.wrap ((q : Int) * 53) = (q : Int) * 53 := IntWalk.i64_in _ (by omega)
        obtain ⟨T, hT⟩ : ∃ T : Nat, T = X1 * 131 + X2 * 1117 + p * 29 + q * 53 := ⟨_, rfl⟩
        have f9 : IntKind.i64.wrap ((X1 : Int) * 131 + (X2 : Int) * 1117 + (p : Int) * 29 + (q : Int) * 53) = (T : Int) := by
          rw [IntWalk.i64_in _ (by omega)]; omega
        have hTb : T < 4294967296 := by omega
        have f10 : ((T : Int)).tdiv 64 = ((T / 64 : Nat) : Int) := rfl
        have hTd : T / 64 < 4294967296 := by omega
        have hY : T ^^^ (T / 64) < 4294967296 := Nat.xor_lt_two_pow (n := 32) hTb hTd
        have f11 := i64_xor T (T / 64) (by omega) (by omega)
        generalize T / 64 = T64 at *
        generalize T ^^^ T64 = Y at *
        have f12 : ((Y : Int)).tmod (N : Int) = ((Y % N : Nat) : Int) := rfl
        have hlt : Y % N < N := Nat.mod_lt _ hN
        clear hT
        go_enter Tryz.func54, Tryz.ntmps54
        go_wp2
        go_quiet (fail)
        go_wp2
        go_ret
        exact ⟨Y % N, rfl, .inl (by omega), HD.out.1.ext (by (repeat (first | exact Ext.refl _ | assumption | refine Ext.alloc ?_ _ | refine Ext.drewN ?_ _ | refine Ext.drew ?_))), HD.out.2.trans (Touched.of_ext (by (repeat (first | exact Ext.refl _ | assumption | refine Ext.alloc ?_ _ | refine Ext.drewN ?_ _ | refine Ext.drew ?_))))⟩

/-- What a draw of a truth comes to. -/
def DrewB (w : World) (g m : Nat) (e : Ending) (w' : World) : Prop := ∃ b : Bool, e = .returned (.bool b) ∧ Rd w' g (m + 1) ∧ Touched w w' g (g + 1)
theorem odd_c (g m : Nat) (n : Int) (w : World) (h : Rd w g m) (hm : m ≤ 1000000) :
    Calls Tryz.prog 146 #[.pointer (some ⟨g, 0, none⟩), .int .i64 n] w (DrewB w g m) := by
  by_cases hn : 0 < n
  · go_enter Tryz.func146, Tryz.ntmps146
    go_wp2_with fail
    refine (pick_c g m n w h hm).mono ?_
    rintro e w1 ⟨x, rfl, hx, hr, ht⟩
    by_cases hx2 : (x : Int) = n - 1
    all_goals
      go_wp2
      go_ret
      exact ⟨_, rfl, hr, ht⟩
  · go_enter Tryz.func146, Tryz.ntmps146
    go_wp2
    go_ret
    exact ⟨_, rfl, h.mono (by omega), Touched.refl _ _ _⟩

/-- What opening a reader comes to. -/
def Opened (w : World) (e : Ending) (w' : World) : Prop := ∃ g, e = .returned (.pointer (some ⟨g, 0, none⟩)) ∧ w.heap.size ≤ g ∧ Rd w' g 0 ∧ Ext w w'
theorem l20Open_c (a : Option Addr) (cap : Nat) (l : List Int) (w : World) (h : BytesAt w a l) (hlen : l.length ≤ 1048576) (hcap : l.length ≤ cap) :
    Calls Tryz.prog 51 #[.slice a l.length cap] w (Opened w) := by
  obtain ⟨b, off, h1, h2⟩ := h
  have H1 := Lib.hid h1
  have H2 := Lib.hid h2
  clear h1 h2
  by_cases hl : 2000 < l.length
  · obtain ⟨rfl, hb⟩ := H1.out (by omega)
    go_enter Tryz.func51, Tryz.ntmps51
    go_wp2
    go_ret
    refine ⟨w.heap.size, rfl, Nat.le_refl _, ?_, by (repeat (first | exact Ext.refl _ | assumption | refine Ext.alloc ?_ _ | refine Ext.drewN ?_ _ | refine Ext.drew ?_))⟩
    refine ⟨⟨0, Nat.le_refl _, by simp [go_sem]⟩, ⟨some ⟨b, off, none⟩, cap, l.take 2000, b, off, ?_, ?_, fun _ => ⟨rfl, hb⟩, fun i hi => ?_⟩, ⟨by simp, fun o => by simp [go_sem]⟩⟩
    · simp [go_sem]; omega
    · simp; omega
    · have hi2 : i < l.length := by simp at hi; omega
      have e1 : nth (l.take 2000) i = nth l i := by
        rw [nth_getElem _ _ hi, nth_getElem _ _ hi2]; simp
      rw [e1]
      exact ⟨Ext.cell' ((Ext.refl w).alloc _) (H2.out i hi2).1 hb, (H2.out i hi2).2⟩
  · go_enter Tryz.func51, Tryz.ntmps51
    go_wp2
    go_ret
    refine ⟨w.heap.size, rfl, Nat.le_refl _, ?_, by (repeat (first | exact Ext.refl _ | assumption | refine Ext.alloc ?_ _ | refine Ext.drewN ?_ _ | refine Ext.drew ?_))⟩
    refine ⟨⟨0, Nat.le_refl _, by simp [go_sem]⟩, ⟨a, cap, l, b, off, by simp [go_sem], by omega, fun h0 => H1.out h0, fun i hi => ?_⟩, ⟨by simp, fun o => by simp [go_sem]⟩⟩
    exact ⟨Ext.cell' ((Ext.refl w).alloc _) (H2.out i hi).1 (H1.out (by omega)).2, (H2.out i hi).2⟩
end Go.Proofs.YtlaamecfknkmlaaGreat
