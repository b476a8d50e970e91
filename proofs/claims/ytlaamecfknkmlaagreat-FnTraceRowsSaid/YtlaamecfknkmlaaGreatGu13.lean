/- Merged texts: contracts and plain lemmas (Rows2, H, J). -/
import Derived.Test.YtlaamecfknkmlaaGreatGu1
import Derived.Test.YtlaamecfknkmlaaGreatGu7
import Derived.Test.YtlaamecfknkmlaaGreatGu12
import Derived.Test.YtlaamecfknkmlaaGreatGu8
import Derived.Deep.RegionHeld3
/- Plain law: slices of slices of ints of the call's own. No program in sight. -/
namespace Go.Kt
set_option linter.unusedVariables false
open Go.RowKit

/-- The slice v holds slices that read as the rows of ll (the first k of them), each in a block of its own; all blocks lie from B on, and below T. -/
structure OwnRk (w : World) (B T E ER : Nat) (v : Value) (n : Nat) (ll : List (List Int)) (k : Nat) : Prop where
  base : B ≤ T
  top : T ≤ w.heap.size
  outer : ∃ vs : List Value, w.ownsRow B ER 1 v n vs ∧ (∀ g, v.ownBlock = some g → g < T) ∧
    (∀ i, i < k → ∃ ai ci, vs[i]? = some (.slice ai (rowI ll i).length ci) ∧ OwnI w B E (.slice ai (rowI ll i).length ci) (rowI ll i) ∧ (∀ g, (Value.slice ai (rowI ll i).length ci).ownBlock = some g → g < T) ∧
      ((Value.slice ai (rowI ll i).length ci).ownBlock = none ∨ (Value.slice ai (rowI ll i).length ci).ownBlock ≠ v.ownBlock)) ∧
    (∀ i j x y, i < k → j < k → i ≠ j → vs[i]? = some x → vs[j]? = some y → x.ownBlock = none ∨ x.ownBlock ≠ y.ownBlock)
/-- All rows. -/
def OwnR (w : World) (B T E ER : Nat) (v : Value) (ll : List (List Int)) : Prop := OwnRk w B T E ER v ll.length ll ll.length

theorem OwnRk.ext {w w' : World} {B T E ER n k : Nat} {v : Value} {ll : List (List Int)} (h : OwnRk w B T E ER v n ll k) (e : Ext w w') : OwnRk w' B T E ER v n ll k := by
  obtain ⟨vs, h1, h2, h3, h4⟩ := h.outer
  refine ⟨h.base, Nat.le_trans h.top e.size, vs, own_ext h1 e, h2, fun i hi => ?_, h4⟩
  obtain ⟨ai, ci, g1, g2, g3, g4⟩ := h3 i hi
  exact ⟨ai, ci, g1, g2.ext e, g3, g4⟩
theorem OwnR.ext {w w' : World} {B T E ER : Nat} {v : Value} {ll : List (List Int)} (h : OwnR w B T E ER v ll) (e : Ext w w') : OwnR w' B T E ER v ll := OwnRk.ext h e
theorem own_slice {w : World} {B E s n : Nat} {v : Value} {xs : List Value} (h : w.ownsRow B E s v n xs) : ∃ a cap, v = .slice a n cap := by
  rcases h.2 with ⟨rfl, h0⟩ | ⟨g, cap, cur, rfl, _⟩
  · exact ⟨none, 0, by rw [h0]⟩
  · exact ⟨_, cap, rfl⟩
theorem OwnRk.shape {w : World} {B T E ER n k : Nat} {v : Value} {ll : List (List Int)} (h : OwnRk w B T E ER v n ll k) : ∃ a cap, v = .slice a n cap := by
  obtain ⟨vs, h1, _⟩ := h.outer
  exact own_slice h1
theorem OwnR.shape {w : World} {B T E ER : Nat} {v : Value} {ll : List (List Int)} (h : OwnR w B T E ER v ll) : ∃ a cap, v = .slice a ll.length cap := OwnRk.shape h
theorem own_head {w : World} {B E s n cap : Nat} {a : Option Addr} {xs : List Value} (h : w.ownsRow B E s (.slice a n cap) n xs) (hn : 0 < n) : ∃ g, a = some ⟨g, 0, none⟩ ∧ B ≤ g ∧ g < w.heap.size := by
  rcases h.2 with ⟨hv, h0⟩ | ⟨g, cap', cur, hv, hB, hg, _⟩
  · omega
  · have : a = some ⟨g, 0, none⟩ ∧ cap = cap' := by simpa using hv
    exact ⟨g, this.1, hB, (Array.getElem?_eq_some_iff.1 hg).1⟩
/-- The outer cells, and each row. -/
theorem OwnRk.row {w : World} {B T E ER n k : Nat} {a : Option Addr} {cap : Nat} {ll : List (List Int)} (h : OwnRk w B T E ER (.slice a n cap) n ll k) (hk : k ≤ n) (hn : 0 < n) :
    ∃ g, a = some ⟨g, 0, none⟩ ∧ B ≤ g ∧ g < T ∧ g < w.heap.size ∧ (∀ i, w.frozen? ⟨g, i, none⟩ = false) ∧ (∀ i, i < n → ∃ x, w.cell? ⟨g, i, none⟩ = some x) ∧
      ∀ i, i < k → ∃ ai ci, w.cell? ⟨g, i, none⟩ = some (.slice ai (rowI ll i).length ci) ∧ OwnI w B E (.slice ai (rowI ll i).length ci) (rowI ll i) := by
  obtain ⟨vs, h1, h2, h3, h4⟩ := h.outer
  obtain ⟨g, rfl, hB, hg⟩ := own_head h1 hn
  refine ⟨g, rfl, hB, h2 g rfl, hg, fun i => World.ownsRow.frozenAt h1 i, fun i hi => ?_, fun i hi => ?_⟩
  · rw [World.ownsRow.cellAt h1 i (by omega)]
    have hl : vs.length = n * 1 := h1.1
    exact ⟨_, List.getElem?_eq_getElem (by omega)⟩
  · obtain ⟨ai, ci, g1, g2, _, _⟩ := h3 i hi
    exact ⟨ai, ci, by rw [World.ownsRow.cellAt h1 i (by omega)]; exact g1, g2⟩
theorem OwnR.rows {w : World} {B T E ER n : Nat} {a : Option Addr} {cap : Nat} {ll : List (List Int)} (h : OwnR w B T E ER (.slice a n cap) ll) : RowsAt w a ll := by
  obtain ⟨a', c', hv⟩ := h.shape
  obtain ⟨rfl, rfl, rfl⟩ : a = a' ∧ n = ll.length ∧ cap = c' := by simpa using hv
  by_cases hl : 0 < ll.length
  · obtain ⟨g, rfl, _, _, hg, _, _, hr⟩ := OwnRk.row h (Nat.le_refl _) hl
    refine ⟨g, 0, fun _ => ⟨rfl, hg⟩, fun i hi => ?_⟩
    obtain ⟨ai, ci, g1, g2⟩ := hr i hi
    exact ⟨ai, ci, by rw [Nat.zero_add]; exact g1, g2.ints⟩
  · exact ⟨0, 0, fun h0 => absurd h0 hl, fun i hi => absurd hi (by omega)⟩
theorem OwnR.len {w : World} {B T E ER n : Nat} {a : Option Addr} {cap : Nat} {ll : List (List Int)} (h : OwnR w B T E ER (.slice a n cap) ll) : n = ll.length := by
  obtain ⟨a', c', hv⟩ := h.shape
  have : a = a' ∧ n = ll.length ∧ cap = c' := by simpa using hv
  exact this.2.1
/-- A row more is stored. -/
theorem OwnRk.step {w w' : World} {B T E ER n k g cap : Nat} {ll : List (List Int)} {u : Value} (h : OwnRk w B T E ER (.slice (some ⟨g, 0, none⟩) n cap) n ll k) (e : Ext w w') (hk : k < n) (hT : T = w.heap.size)
    (hu : OwnI w' w.heap.size E u (rowI ll k)) : OwnRk (w'.setCell ⟨g, k, none⟩ u) B w'.heap.size E ER (.slice (some ⟨g, 0, none⟩) n cap) n ll (k + 1) := by
  obtain ⟨vs, h1, h2, h3, h4⟩ := h.outer
  subst hT
  have hg := h2 g rfl
  have hl : vs.length = n * 1 := h1.1
  have hus := (World.ownsRow.lt hu)
  have hne : u.ownBlock ≠ some g := by
    intro hc
    have := (hus g hc).1
    omega
  obtain ⟨au, cu, rfl, _⟩ := hu.shape
  refine ⟨Nat.le_trans h.base e.size, by simp, vs.set k _, (World.ownsRow.stored (own_ext h1 e) k _).1, fun g' hg' => Nat.lt_of_lt_of_le (h2 g' hg') e.size, fun i hi => ?_, fun i j x y hi hj hij hx hy => ?_⟩
  · by_cases hik : i = k
    · subst hik
      refine ⟨au, cu, by rw [List.getElem?_set_self (by omega)], ?_, fun g' hg' => (hus g' hg').2, ?_⟩
      · exact own_set_other (own_mono hu h.base) ⟨g, i, none⟩ _ hne
      · exact .inr hne
    · obtain ⟨ai, ci, g1, g2, g3, g4⟩ := h3 i (by omega)
      refine ⟨ai, ci, by rw [List.getElem?_set_ne (by omega)]; exact g1, ?_, fun g' hg' => Nat.lt_of_lt_of_le (g3 g' hg') e.size, g4⟩
      refine own_set_other (g2.ext e) ⟨g, k, none⟩ _ ?_
      rcases g4 with g4 | g4
      · rw [g4]; simp
      · exact g4
  · by_cases hik : i = k
    · subst hik
      rw [List.getElem?_set_self (by omega)] at hx
      rw [List.getElem?_set_ne (by omega)] at hy
      obtain ⟨aj, cj, k1, k2, k3, _⟩ := h3 j (by omega)
      rw [k1] at hy
      have hy' := Option.some.inj hy
      have hx' := Option.some.inj hx
      subst hy' hx'
      cases hb : (Value.slice au (rowI ll i).length cu).ownBlock with
      | none => exact .inl rfl
      | some gu =>
        refine .inr fun hc => ?_
        have := (hus gu hb).1
        have := k3 gu hc.symm
        omega
    · rw [List.getElem?_set_ne (by omega)] at hx
      by_cases hjk : j = k
      · subst hjk
        rw [List.getElem?_set_self (by omega)] at hy
        obtain ⟨ai, ci, k1, k2, k3, _⟩ := h3 i (by omega)
        rw [k1] at hx
        have hx' := Option.some.inj hx
        have hy' := Option.some.inj hy
        subst hy' hx'
        cases hb : (Value.slice ai (rowI ll i).length ci).ownBlock with
        | none => exact .inl rfl
        | some gi =>
          refine .inr fun hc => ?_
          have := k3 gi hb
          have := (hus gi hc.symm).1
          omega
      · rw [List.getElem?_set_ne (by omega)] at hy
        exact h4 i j x y (by omega) (by omega) hij hx hy

theorem OwnRk.step' {w w' : World} {B n k g cap E ER : Nat} {ll : List (List Int)} {u : Value} (h : OwnRk w B w.heap.size E ER (.slice (some ⟨g, 0, none⟩) n cap) n ll k) (e : Ext w w') (hk : k < n)
    (hu : OwnI w' w.heap.size E u (rowI ll k)) : OwnRk (w'.setCell ⟨g, k, none⟩ u) B (w'.setCell ⟨g, k, none⟩ u).heap.size E ER (.slice (some ⟨g, 0, none⟩) n cap) n ll (k + 1) := by
  have := h.step e hk rfl hu
  simpa using this
theorem OwnRk.start {w : World} {B n E ER : Nat} {v : Value} {xs : List Value} {ll : List (List Int)} (h : w.ownsRow B ER 1 v n xs) (hB : B ≤ w.heap.size) : OwnRk w B w.heap.size E ER v n ll 0 :=
  ⟨hB, Nat.le_refl _, xs, h, fun g hg => (World.ownsRow.lt h g hg).2, fun i hi => absurd hi (Nat.not_lt_zero _), fun i j x y hi => absurd hi (Nat.not_lt_zero _)⟩
/-- What a call that makes rows comes to; and a model. -/
def RetR (E ER : Nat) (w : World) (ll : List (List Int)) (e : Ending) (w' : World) : Prop := ∃ v, e = .returned v ∧ OwnR w' w.heap.size w'.heap.size E ER v ll ∧ Ext w w'
def RetM (E ER : Nat) (w : World) (st p q : Int) (ll : List (List Int)) (e : Ending) (w' : World) : Prop :=
  ∃ v, e = .returned (.agg #[.int .i64 st, .int .i64 p, .int .i64 q, v]) ∧ OwnR w' w.heap.size w'.heap.size E ER v ll ∧ Ext w w'
theorem OwnR.mono {w : World} {B B' T T' E ER : Nat} {v : Value} {ll : List (List Int)} (h : OwnR w B T E ER v ll) (hB : B' ≤ B) (hT : T ≤ T') (hw : T' ≤ w.heap.size) : OwnR w B' T' E ER v ll := by
  obtain ⟨vs, h1, h2, h3, h4⟩ := OwnRk.outer h
  refine ⟨by have := OwnRk.base h; omega, hw, vs, own_mono h1 hB, fun g hg => Nat.lt_of_lt_of_le (h2 g hg) hT, fun i hi => ?_, h4⟩
  obtain ⟨a', c', e1, e2, e3, e4⟩ := h3 i hi
  exact ⟨a', c', e1, e2.mono hB, fun g hg => Nat.lt_of_lt_of_le (e3 g hg) hT, e4⟩

/-! ### marks in rows -/
/-- Only blocks from B on and below T may have turned. -/
structure Touched (w w' : World) (B T : Nat) : Prop where
  os : w'.os = w.os
  tape : w'.tape = w.tape
  output : w'.output = w.output
  size : w.heap.size ≤ w'.heap.size
  block : ∀ k, k < w.heap.size → (k < B ∨ T ≤ k) → w'.heap[k]? = w.heap[k]?
theorem Touched.refl (w : World) (B T : Nat) : Touched w w B T := ⟨rfl, rfl, rfl, Nat.le_refl _, fun _ _ _ => rfl⟩
theorem Touched.trans {a b c : World} {B T : Nat} (h : Touched a b B T) (k : Touched b c B T) : Touched a c B T :=
  ⟨k.os.trans h.os, k.tape.trans h.tape, k.output.trans h.output, Nat.le_trans h.size k.size, fun i hi ho => (k.block i (Nat.lt_of_lt_of_le hi h.size) ho).trans (h.block i hi ho)⟩
theorem Touched.of_grown {w w' : World} {B T : Nat} {row : Option Nat} (h : w.grownBy w' row) (hr : ∀ g, row = some g → B ≤ g ∧ g < T) : Touched w w' B T :=
  ⟨h.os, h.tape, h.output, h.size, fun k hk ho => h.block k hk (fun e => by have := hr k e.symm; omega)⟩
theorem Touched.of_ext {w w' : World} {B T : Nat} (h : Ext w w') : Touched w w' B T := ⟨h.os, h.tape, h.output, h.size, fun k hk _ => h.block k hk⟩
theorem Touched.ext {w0 w w' : World} {B T : Nat} (h : Touched w w' B T) (hx : Ext w0 w) (hB : w0.heap.size ≤ B) : Ext w0 w' :=
  ⟨h.os.trans hx.os, h.tape.trans hx.tape, h.output.trans hx.output, Nat.le_trans hx.size h.size, fun k hk => (h.block k (Nat.lt_of_lt_of_le hk hx.size) (.inl (by omega))).trans (hx.block k hk)⟩
theorem own_untouched {w w' : World} {B T B' E s n : Nat} {v : Value} {xs : List Value} (h : w.ownsRow B' E s v n xs) (t : Touched w w' B T) (hne : ∀ g, v.ownBlock = some g → g < B ∨ T ≤ g) : w'.ownsRow B' E s v n xs := by
  refine ⟨h.1, ?_⟩
  rcases h.2 with hn | ⟨g, cap, cur, rfl, hb, hgg, rest⟩
  · exact .inl hn
  · refine .inr ⟨g, cap, cur, rfl, hb, ?_, rest⟩
    rw [t.block g (Array.getElem?_eq_some_iff.1 hgg).1 (hne g rfl)]
    exact hgg
/-- How many numbers the first i rows have. -/
def totTo (ll : List (List Int)) : Nat → Nat
  | 0 => 0
  | i + 1 => totTo ll i + (rowI ll i).length
theorem totTo_le (ll : List (List Int)) (i : Nat) : ∀ d, totTo ll i ≤ totTo ll (i + d)
  | 0 => Nat.le_refl _
  | d + 1 => Nat.le_trans (totTo_le ll i d) (by rw [← Nat.add_assoc]; exact Nat.le_add_right _ _)
theorem totTo_row (ll : List (List Int)) (i n : Nat) (h : i < n) : totTo ll i + (rowI ll i).length ≤ totTo ll n := by
  have := totTo_le ll (i + 1) (n - (i + 1))
  rw [show i + 1 + (n - (i + 1)) = n by omega] at this
  exact this
def marksR (k : Int) (ll : List (List Int)) : List (List Int) := (List.range ll.length).map fun i => marks (k + totTo ll i) (rowI ll i).length
def mixR (k : Int) (ll : List (List Int)) (t : Nat) : List (List Int) := (List.range ll.length).map fun i => if i < t then marks (k + totTo ll i) (rowI ll i).length else rowI ll i
theorem mixR_length (k : Int) (ll : List (List Int)) (t : Nat) : (mixR k ll t).length = ll.length := by simp [mixR]
theorem marksR_length (k : Int) (ll : List (List Int)) : (marksR k ll).length = ll.length := by simp [marksR]
theorem mixR_row (k : Int) (ll : List (List Int)) (t i : Nat) (h : i < ll.length) : rowI (mixR k ll t) i = if i < t then marks (k + totTo ll i) (rowI ll i).length else rowI ll i := by
  rw [rowI_getElem _ _ (by rw [mixR_length]; exact h)]; simp [mixR]
theorem marksR_row (k : Int) (ll : List (List Int)) (i : Nat) (h : i < ll.length) : rowI (marksR k ll) i = marks (k + totTo ll i) (rowI ll i).length := by
  rw [rowI_getElem _ _ (by rw [marksR_length]; exact h)]; simp [marksR]
theorem mixR_zero (k : Int) (ll : List (List Int)) : mixR k ll 0 = ll := by
  apply ext_rowI
  · exact mixR_length _ _ _
  · intro j hj
    rw [mixR_length] at hj
    rw [mixR_row k ll 0 j hj, if_neg (Nat.not_lt_zero _)]
theorem mixR_end (k : Int) (ll : List (List Int)) : mixR k ll ll.length = marksR k ll := by
  apply ext_rowI
  · rw [mixR_length, marksR_length]
  · intro j hj
    rw [mixR_length] at hj
    rw [mixR_row k ll _ j hj, marksR_row k ll j hj, if_pos hj]
theorem mixR_len (k : Int) (ll : List (List Int)) (t i : Nat) (h : i < ll.length) : (rowI (mixR k ll t) i).length = (rowI ll i).length := by
  rw [mixR_row k ll t i h]; split <;> simp [marks_length]
theorem marksR_len (k : Int) (ll : List (List Int)) (i : Nat) (h : i < ll.length) : (rowI (marksR k ll) i).length = (rowI ll i).length := by
  rw [marksR_row k ll i h, marks_length]
/-- A row is marked. -/
theorem OwnR.mark {w w' : World} {B T E ER cap t : Nat} {g : Nat} {k : Int} {ll : List (List Int)} {ai : Option Addr} {ci : Nat} (ht : t < ll.length)
    (h : OwnR w B T E ER (.slice (some ⟨g, 0, none⟩) ll.length cap) (mixR k ll t)) (hc : w.cell? ⟨g, t, none⟩ = some (.slice ai (rowI ll t).length ci))
    (ho : OwnI w' B E (.slice ai (rowI ll t).length ci) (marks (k + totTo ll t) (rowI ll t).length)) (hg : w.grownBy w' (Value.slice ai (rowI ll t).length ci).ownBlock) :
    OwnR w' B T E ER (.slice (some ⟨g, 0, none⟩) ll.length cap) (mixR k ll (t + 1)) ∧ Touched w w' B T := by
  obtain ⟨vs, h1, h2, h3, h4⟩ := OwnRk.outer h
  rw [mixR_length] at h1 h3 h4
  have hvt : vs[t]? = some (.slice ai (rowI ll t).length ci) := by rw [← World.ownsRow.cellAt h1 t (by omega)]; exact hc
  have hrow : (Value.slice ai (rowI ll t).length ci).ownBlock = none ∨ (Value.slice ai (rowI ll t).length ci).ownBlock ≠ some g := by
    obtain ⟨a', c', e1, e2, e3, e4⟩ := h3 t ht
    rw [hvt] at e1
    have e1' := Option.some.inj e1
    rw [← e1'] at e4
    exact e4
  have hlt : ∀ g', (Value.slice ai (rowI ll t).length ci).ownBlock = some g' → B ≤ g' ∧ g' < T := by
    obtain ⟨a', c', e1, e2, e3, e4⟩ := h3 t ht
    rw [hvt] at e1
    have e1' := Option.some.inj e1
    rw [← e1'] at e3 e2
    exact fun g' hg' => ⟨(World.ownsRow.lt e2 g' hg').1, e3 g' hg'⟩
  have hsg : (Value.slice (some ⟨g, 0, none⟩) ll.length cap).ownBlock = none ∨ (Value.slice (some ⟨g, 0, none⟩) ll.length cap).ownBlock ≠ (Value.slice ai (rowI ll t).length ci).ownBlock := by
    rcases hrow with hr | hr
    · right; rw [hr]; simp [Value.ownBlock]
    · right; exact fun e => hr e.symm
  refine ⟨?_, Touched.of_grown hg hlt⟩
  unfold OwnR
  rw [mixR_length]
  refine ⟨OwnRk.base h, Nat.le_trans (OwnRk.top h) hg.size, vs, World.ownsRow.kept h1 hg hsg, h2, fun i hi => ?_, fun i j x y hi hj => h4 i j x y hi hj⟩
  obtain ⟨a', c', e1, e2, e3, e4⟩ := h3 i hi
  rw [mixR_len k ll _ i hi] at e1 e3 e4
  rw [mixR_len k ll _ i hi]
  refine ⟨a', c', e1, ?_, e3, e4⟩
  by_cases hit : i = t
  · subst hit
    rw [hvt] at e1
    have e1' := Option.some.inj e1
    rw [← e1', mixR_row k ll _ i hi, if_pos (by omega)]
    exact ho
  · have hr : rowI (mixR k ll (t + 1)) i = rowI (mixR k ll t) i := by
      rw [mixR_row k ll _ i hi, mixR_row k ll _ i hi]
      by_cases h5 : i < t
      · rw [if_pos (by omega), if_pos h5]
      · rw [if_neg (by omega), if_neg h5]
    rw [hr]
    rw [mixR_len k ll _ i hi] at e2
    exact World.ownsRow.kept e2 hg (h4 i t _ _ hi ht hit e1 hvt)
theorem OwnR.untouched {w w' : World} {B T B' T' E ER : Nat} {v : Value} {ll : List (List Int)} (h : OwnR w B' T' E ER v ll) (t : Touched w w' B T) (hne : T' ≤ B ∨ T ≤ B') : OwnR w' B' T' E ER v ll := by
  obtain ⟨vs, h1, h2, h3, h4⟩ := OwnRk.outer h
  have far : ∀ g, B' ≤ g → g < T' → g < B ∨ T ≤ g := fun g _ _ => by omega
  refine ⟨OwnRk.base h, Nat.le_trans (OwnRk.top h) t.size, vs, own_untouched h1 t (fun g hg => far g (World.ownsRow.lt h1 g hg).1 (h2 g hg)), h2, fun i hi => ?_, h4⟩
  obtain ⟨a', c', e1, e2, e3, e4⟩ := h3 i hi
  exact ⟨a', c', e1, own_untouched e2 t (fun g hg => far g (World.ownsRow.lt e2 g hg).1 (e3 g hg)), e3, e4⟩

theorem Touched.setCell (w : World) (p : Addr) (u : Value) : Touched w (w.setCell p u) p.block (p.block + 1) :=
  ⟨rfl, rfl, rfl, by simp, fun k hk ho => Below.heap_setCell w p u k (by omega)⟩
theorem OwnR.setOld {w : World} {B T E ER : Nat} {v : Value} {ll : List (List Int)} (h : OwnR w B T E ER v ll) {p : Addr} (hp : p.block < B) (u : Value) : OwnR (w.setCell p u) B T E ER v ll :=
  h.untouched (Touched.setCell w p u) (.inr (by omega))

theorem OwnR.top' {w : World} {B T E ER : Nat} {v : Value} {ll : List (List Int)} (h : OwnR w B T E ER v ll) : B ≤ T ∧ T ≤ w.heap.size := ⟨OwnRk.base h, OwnRk.top h⟩
theorem OwnI.untouched {w w' : World} {B T B' E : Nat} {v : Value} {l : List Int} (h : OwnI w B' E v l) (t : Touched w w' B T) (hne : ∀ g, v.ownBlock = some g → g < B ∨ T ≤ g) : OwnI w' B' E v l := own_untouched h t hne

/-- A variable that holds a model. -/
def BoxM (w : World) (b : Nat) (st p q : Int) (v : Value) : Prop :=
  w.cell? ⟨b, 0, none⟩ = some (.int .i64 st) ∧ w.cell? ⟨b, 1, none⟩ = some (.int .i64 p) ∧ w.cell? ⟨b, 2, none⟩ = some (.int .i64 q) ∧ w.cell? ⟨b, 3, none⟩ = some v
theorem BoxM.ext {w w' : World} {b : Nat} {st p q : Int} {v : Value} (h : BoxM w b st p q v) (e : Ext w w') : BoxM w' b st p q v := by
  have hb : b < w.heap.size := lt_of_cell h.1
  exact ⟨e.cell' h.1 hb, e.cell' h.2.1 hb, e.cell' h.2.2.1 hb, e.cell' h.2.2.2 hb⟩
theorem BoxM.lt {w : World} {b : Nat} {st p q : Int} {v : Value} (h : BoxM w b st p q v) : b < w.heap.size := lt_of_cell h.1
theorem BoxM.out {w : World} {b : Nat} {st p q : Int} {v : Value} (h : BoxM w b st p q v) : w.cell? ⟨b, 0, none⟩ = some (.int .i64 st) ∧ w.cell? ⟨b, 1, none⟩ = some (.int .i64 p) ∧ w.cell? ⟨b, 2, none⟩ = some (.int .i64 q) ∧ w.cell? ⟨b, 3, none⟩ = some v := h
theorem BoxM.untouched {w w' : World} {b B T : Nat} {st p q : Int} {v : Value} (h : BoxM w b st p q v) (t : Touched w w' B T) (hb : b < B ∨ T ≤ b) : BoxM w' b st p q v := by
  have e := t.block b h.lt hb
  exact ⟨(World.cell?_of_block (a := ⟨b, 0, none⟩) e).trans h.1, (World.cell?_of_block (a := ⟨b, 1, none⟩) e).trans h.2.1, (World.cell?_of_block (a := ⟨b, 2, none⟩) e).trans h.2.2.1, (World.cell?_of_block (a := ⟨b, 3, none⟩) e).trans h.2.2.2⟩

end Go.Kt
/- Contracts: sizes, copies, comparisons and marks of slices of slices of ints and of models. -/
namespace Go.Proofs.YtlaamecfknkmlaaGreat
set_option linter.unusedVariables false
open Go.RowKit Go.Kt

/-- What a look at sizes says: below 0, or all fit. -/
def Fits (ll : List (List Int)) (left : Int) (r : Int) : Prop := r ≤ left ∧ (0 ≤ r → (ll.length : Int) ≤ left ∧ ((totTo ll ll.length : Nat) : Int) ≤ left)


theorem infoInts : (Tryz.prog.info? 23).map (fun i => (i.zero, i.size, i.bytes)) = some (some (.slice none 0 0), 1, 24) := by kernel_rfl



/-- Two models are the same. -/
def eqM (st p q : Int) (ll : List (List Int)) (st' p' q' : Int) (ll' : List (List Int)) : Bool := st == st' && p == p' && q == q' && ll == ll'
theorem eqM_self (st p q : Int) (ll : List (List Int)) : eqM st p q ll st p q ll = true := by simp [eqM]




end Go.Proofs.YtlaamecfknkmlaaGreat
/- All contracts of models that are there so far, under one name. -/
