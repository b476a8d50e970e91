/- Merged texts: contracts and plain lemmas (Base, Sets). -/
import Derived.WalkKit
import Derived.WalkSpells
import Derived.WalkLawsBesides
import Derived.Lib.Hide
import Derived.BigQuiet
import Derived.Deep.QuietTactic
import Derived.StillTailTactics
import Derived.Deep.RegionHeld3
/- Plain lemmas that every walk of this seat uses: bits of small sets, readings of slices of integers, worlds that only grow. No program in sight. -/
namespace Go.Kt
set_option linter.unusedVariables false
open Go.RowKit

/-! ### bits -/
theorem ofInt_i64 (a : Nat) (ha : a < 9223372036854775808) : (BitVec.ofInt 64 (a : Int)).toNat = a := by
  rw [BitVec.ofInt_natCast, BitVec.toNat_ofNat]; exact Nat.mod_eq_of_lt (by omega)
theorem i64_and (a b : Nat) (ha : a < 9223372036854775808) (hb : b < 9223372036854775808) : bits .and .i64 (a : Int) (b : Int) = ((a &&& b : Nat) : Int) := by
  have hx : a &&& b < 2 ^ 63 := Nat.and_lt_two_pow _ (by omega)
  show IntKind.i64.wrap ((BitVec.ofInt 64 (a : Int) &&& BitVec.ofInt 64 (b : Int)).toNat : Int) = _
  rw [BitVec.toNat_and, ofInt_i64 a ha, ofInt_i64 b hb, IntKind.wrap_i64]
  omega
theorem i64_or (a b : Nat) (ha : a < 9223372036854775808) (hb : b < 9223372036854775808) : bits .or .i64 (a : Int) (b : Int) = ((a ||| b : Nat) : Int) := by
  have hx : a ||| b < 2 ^ 63 := Nat.or_lt_two_pow (by omega) (by omega)
  show IntKind.i64.wrap ((BitVec.ofInt 64 (a : Int) ||| BitVec.ofInt 64 (b : Int)).toNat : Int) = _
  rw [BitVec.toNat_or, ofInt_i64 a ha, ofInt_i64 b hb, IntKind.wrap_i64]
  omega
theorem i64_xor (a b : Nat) (ha : a < 9223372036854775808) (hb : b < 9223372036854775808) : bits .xor .i64 (a : Int) (b : Int) = ((a ^^^ b : Nat) : Int) := by
  have hx : a ^^^ b < 2 ^ 63 := Nat.xor_lt_two_pow (by omega) (by omega)
  show IntKind.i64.wrap ((BitVec.ofInt 64 (a : Int) ^^^ BitVec.ofInt 64 (b : Int)).toNat : Int) = _
  rw [BitVec.toNat_xor, ofInt_i64 a ha, ofInt_i64 b hb, IntKind.wrap_i64]
  omega
theorem i64_and_one (a : Nat) (ha : a < 9223372036854775808) : bits .and .i64 (a : Int) 1 = ((a % 2 : Nat) : Int) := by
  have := i64_and a 1 ha (by decide)
  rw [Nat.and_one_is_mod] at this; exact this
/-- The bit k of a small number, as Go asks for it. -/
theorem i64_bit (t k : Nat) (ht : t < 9223372036854775808) : bits .and .i64 ((t : Int) / 2 ^ k) 1 = (((t.testBit k).toNat : Nat) : Int) := by
  have e : ((t : Int) / 2 ^ k) = ((t / 2 ^ k : Nat) : Int) := by simp
  have hle : t / 2 ^ k ≤ t := Nat.div_le_self _ _
  rw [e, i64_and_one _ (by omega), Nat.toNat_testBit]
theorem i64_bit_eq (t k : Nat) (ht : t < 9223372036854775808) : (bits .and .i64 ((t : Int) / 2 ^ k) 1 == 1) = t.testBit k := by
  rw [i64_bit t k ht]; cases t.testBit k <;> rfl
theorem tmod_bit (t k : Nat) : ((t : Int) / 2 ^ k).tmod 2 = (((t.testBit k).toNat : Nat) : Int) := by
  have e : ((t : Int) / 2 ^ k) = ((t / 2 ^ k : Nat) : Int) := by simp
  rw [e, Nat.toNat_testBit, Int.tmod_eq_emod_of_nonneg (Int.natCast_nonneg _)]; rfl
theorem emod_bit (t k : Nat) : ((t : Int) / 2 ^ k) % 2 = (((t.testBit k).toNat : Nat) : Int) := by
  have e : ((t : Int) / 2 ^ k) = ((t / 2 ^ k : Nat) : Int) := by simp
  rw [e, Nat.toNat_testBit]; simp

theorem pow_le_32 (s : Nat) (hs : s ≤ 5) : (2 : Int) ^ s ≤ 32 := by
  have h : (2 : Nat) ^ s ≤ 2 ^ 5 := Nat.pow_le_pow_right (by decide) hs
  have : ((2 ^ s : Nat) : Int) ≤ ((2 ^ 5 : Nat) : Int) := by exact_mod_cast h
  simpa using this
theorem pow_pos' (s : Nat) : (1 : Int) ≤ (2 : Int) ^ s := by
  have h : 1 ≤ (2 : Nat) ^ s := Nat.one_le_two_pow
  have : ((1 : Nat) : Int) ≤ ((2 ^ s : Nat) : Int) := by exact_mod_cast h
  simpa using this
theorem pow_le_big (s m : Nat) (hs : s ≤ m) : (2 : Int) ^ s ≤ 2 ^ m := by
  have h : (2 : Nat) ^ s ≤ 2 ^ m := Nat.pow_le_pow_right (by decide) hs
  have : ((2 ^ s : Nat) : Int) ≤ ((2 ^ m : Nat) : Int) := by exact_mod_cast h
  simpa using this

/-- The lowest k bits of what is in both. -/
def andTo (a b k : Nat) : Nat := (a &&& b) % 2 ^ k
theorem andTo_zero (a b : Nat) : andTo a b 0 = 0 := by simp [andTo, Nat.mod_one]
theorem andTo_le (a b k : Nat) : andTo a b k ≤ a := Nat.le_trans (Nat.mod_le _ _) Nat.and_le_left
theorem andTo_succ (a b k : Nat) : andTo a b (k + 1) = andTo a b k + (if a.testBit k && b.testBit k then 2 ^ k else 0) := by
  unfold andTo
  rw [Nat.pow_succ, Nat.mod_mul, ← Nat.toNat_testBit, Nat.testBit_and]
  cases (a.testBit k && b.testBit k) <;> simp
theorem andTo_end (a b k : Nat) (h : a < 2 ^ k ∨ b < 2 ^ k) : andTo a b k = a &&& b := by
  unfold andTo
  refine Nat.mod_eq_of_lt ?_
  rcases h with h | h
  · exact Nat.lt_of_le_of_lt Nat.and_le_left h
  · exact Nat.lt_of_le_of_lt Nat.and_le_right h

/-! ### worlds that only grow -/
/-- Of what was there nothing has turned. -/
abbrev Ext (w w' : World) : Prop := Below w.heap.size w w'
theorem Ext.refl (w : World) : Ext w w := Below.refl _ _
theorem Ext.trans {a b c : World} (h : Ext a b) (k : Ext b c) : Ext a c := Below.trans h (k.mono h.size)
theorem Ext.drew {w w' : World} (h : Ext w w') : Ext w w'.drew := Below.drew h
theorem Ext.drewN {w w' : World} (h : Ext w w') (n : Nat) : Ext w (w'.drewN n) := below_drewN h n
theorem Ext.alloc {w w' : World} (h : Ext w w') (o : Obj) : Ext w (w'.alloc o) := Below.alloc h h.size o
theorem Ext.setCell {w w' : World} (h : Ext w w') {p : Addr} (hp : w.heap.size ≤ p.block) (u : Value) : Ext w (w'.setCell p u) := Below.setCell h hp u
theorem Ext.cells {w w' : World} (h : Ext w w') : (∀ b o, b < w.heap.size → w'.cell? ⟨b, o, none⟩ = w.cell? ⟨b, o, none⟩) ∧ (∀ b o, b < w.heap.size → w'.frozen? ⟨b, o, none⟩ = w.frozen? ⟨b, o, none⟩) :=
  ⟨fun b o k => h.cell (p := ⟨b, o, none⟩) k, fun b o k => h.frozen (p := ⟨b, o, none⟩) k⟩
theorem Ext.cell' {w w' : World} (h : Ext w w') {b o : Nat} {v : Value} (k : w.cell? ⟨b, o, none⟩ = some v) (hb : b < w.heap.size) : w'.cell? ⟨b, o, none⟩ = some v := by
  rw [h.cell (p := ⟨b, o, none⟩) hb]; exact k

theorem cell_new0 (w : World) (v : Value) (t : TypeId) : (w.alloc (.cells #[v] t)).cell? ⟨w.heap.size, 0, none⟩ = some v := by
  simp

/-- A callee that leaves the world alone, met inside a quiet region. -/
theorem quiet_same {P : Program} {f : FuncId} {args : Array Value} {w : World} {n : Nat} {v : Value}
    (h : Calls P f args (w.drewN n) fun e w' => e = .returned v ∧ w.drewN n = w') : Calls P f args (w.drewN n) fun e w'' => e = .returned v ∧ ∃ m, w'' = w.drewN m :=
  h.mono fun _ _ ⟨he, hm⟩ => ⟨he, n, hm.symm⟩
theorem quiet_same_add {P : Program} {f : FuncId} {args : Array Value} {w : World} {a n : Nat} {v : Value}
    (h : Calls P f args (w.drewN (a + n)) fun e w' => e = .returned v ∧ w.drewN (a + n) = w') :
    Calls P f args (w.drewN (a + n)) fun e w'' => e = .returned v ∧ ∃ m, w'' = w.drewN (a + m) :=
  h.mono fun _ _ ⟨he, hm⟩ => ⟨he, n, hm.symm⟩
/-- A callee that only draws, met inside a quiet region. -/
theorem quiet_drawn {P : Program} {f : FuncId} {args : Array Value} {w : World} {n : Nat} {v : Value}
    (h : Calls P f args (w.drewN n) fun e w' => e = .returned v ∧ ∃ m, w' = (w.drewN n).drewN m) : Calls P f args (w.drewN n) fun e w'' => e = .returned v ∧ ∃ m, w'' = w.drewN m :=
  h.mono fun _ _ ⟨he, m, hm⟩ => ⟨he, n + m, by rw [hm, World.drewN_drewN]⟩
theorem quiet_drawn_add {P : Program} {f : FuncId} {args : Array Value} {w : World} {a n : Nat} {v : Value}
    (h : Calls P f args (w.drewN (a + n)) fun e w' => e = .returned v ∧ ∃ m, w' = (w.drewN (a + n)).drewN m) :
    Calls P f args (w.drewN (a + n)) fun e w'' => e = .returned v ∧ ∃ m, w'' = w.drewN (a + m) :=
  h.mono fun _ _ ⟨he, m, hm⟩ => ⟨he, n + m, by rw [hm, World.drewN_drewN, Nat.add_assoc]⟩

theorem drawn2 (w : World) (m n : Nat) : ∃ k, (w.drewN m).drewN n = w.drewN k := ⟨_, World.drewN_drewN _ _ _⟩

/-! ### readings of slices -/
def nth (l : List Int) (i : Nat) : Int := l.getD i 0
/-- What a slice of ints (its first cell's address, nil where it is empty, as the case may be) reads as. -/
def IntsAt (w : World) (a : Option Addr) (l : List Int) : Prop :=
  ∃ b off, (0 < l.length → a = some ⟨b, off, none⟩ ∧ b < w.heap.size) ∧ ∀ i, i < l.length → w.cell? ⟨b, off + i, none⟩ = some (.int .i64 (nth l i))
theorem IntsAt.ext {w w' : World} {a : Option Addr} {l : List Int} (h : IntsAt w a l) (e : Ext w w') : IntsAt w' a l := by
  obtain ⟨b, off, h1, h2⟩ := h
  refine ⟨b, off, fun h0 => ⟨(h1 h0).1, Nat.lt_of_lt_of_le (h1 h0).2 e.size⟩, fun i hi => ?_⟩
  exact e.cell' (h2 i hi) (h1 (by omega)).2
theorem nth_map (l : List Nat) (i : Nat) : nth (l.map Int.ofNat) i = ((l.getD i 0 : Nat) : Int) := by
  unfold nth
  rw [List.getD_eq_getElem?_getD, List.getD_eq_getElem?_getD, List.getElem?_map]
  cases l[i]? <;> rfl
theorem nth_getElem (l : List Int) (i : Nat) (h : i < l.length) : nth l i = l[i] := by
  unfold nth
  rw [List.getD_eq_getElem?_getD, List.getElem?_eq_getElem h]; rfl
theorem upto_succ {P : Nat → Prop} {k : Nat} (h : ∀ j, j < k → P j) (hk : P k) : ∀ j, j < k + 1 → P j := fun j hj => by
  rcases Nat.lt_or_ge j k with h' | h'
  · exact h j h'
  · obtain rfl : j = k := by omega
    exact hk
theorem ext_nth (l l' : List Int) (h : l.length = l'.length) (e : ∀ j, j < l.length → nth l j = nth l' j) : l = l' := by
  apply List.ext_getElem h
  intro i h1 h2
  have := e i h1
  rwa [nth_getElem l i h1, nth_getElem l' i h2] at this
theorem nth_mem (l : List Int) (i : Nat) (h : i < l.length) : nth l i ∈ l := by
  unfold nth
  rw [List.getD_eq_getElem?_getD, List.getElem?_eq_getElem h]; exact List.getElem_mem h
/-- The i-th row. -/
def rowI (ll : List (List Int)) (i : Nat) : List Int := ll.getD i []
theorem rowI_getElem (ll : List (List Int)) (i : Nat) (h : i < ll.length) : rowI ll i = ll[i] := by
  unfold rowI
  rw [List.getD_eq_getElem?_getD, List.getElem?_eq_getElem h]; rfl
theorem rowI_mem (ll : List (List Int)) (i : Nat) (h : i < ll.length) : rowI ll i ∈ ll := by
  rw [rowI_getElem ll i h]; exact List.getElem_mem h
theorem ext_rowI (l l' : List (List Int)) (h : l.length = l'.length) (e : ∀ j, j < l.length → rowI l j = rowI l' j) : l = l' := by
  apply List.ext_getElem h
  intro i h1 h2
  have := e i h1
  rwa [rowI_getElem l i h1, rowI_getElem l' i h2] at this
/-- Slices of slices of ints: each cell holds a slice that reads as its row. -/
def RowsAt (w : World) (a : Option Addr) (ll : List (List Int)) : Prop :=
  ∃ b off, (0 < ll.length → a = some ⟨b, off, none⟩ ∧ b < w.heap.size) ∧
    ∀ i, i < ll.length → ∃ ai ci, w.cell? ⟨b, off + i, none⟩ = some (.slice ai (rowI ll i).length ci) ∧ IntsAt w ai (rowI ll i)
theorem RowsAt.ext {w w' : World} {a : Option Addr} {ll : List (List Int)} (h : RowsAt w a ll) (e : Ext w w') : RowsAt w' a ll := by
  obtain ⟨b, off, h1, h2⟩ := h
  refine ⟨b, off, fun h0 => ⟨(h1 h0).1, Nat.lt_of_lt_of_le (h1 h0).2 e.size⟩, fun i hi => ?_⟩
  obtain ⟨ai, ci, h3, h4⟩ := h2 i hi
  exact ⟨ai, ci, e.cell' h3 (h1 (by omega)).2, h4.ext e⟩

/-- What a slice of bytes reads as. -/
def BytesAt (w : World) (a : Option Addr) (l : List Int) : Prop :=
  ∃ b off, (0 < l.length → a = some ⟨b, off, none⟩ ∧ b < w.heap.size) ∧ ∀ i, i < l.length → w.cell? ⟨b, off + i, none⟩ = some (.int .u8 (nth l i)) ∧ 0 ≤ nth l i ∧ nth l i ≤ 255
theorem BytesAt.ext {w w' : World} {a : Option Addr} {l : List Int} (h : BytesAt w a l) (e : Ext w w') : BytesAt w' a l := by
  obtain ⟨b, off, h1, h2⟩ := h
  refine ⟨b, off, fun h0 => ⟨(h1 h0).1, Nat.lt_of_lt_of_le (h1 h0).2 e.size⟩, fun i hi => ⟨e.cell' (h2 i hi).1 (h1 (by omega)).2, (h2 i hi).2⟩⟩
theorem lt_of_cell {w : World} {b o : Nat} {v : Value} (h : w.cell? ⟨b, o, none⟩ = some v) : b < w.heap.size := by
  apply Decidable.byContradiction
  intro hn
  rw [World.cell?, Array.getElem?_eq_none (by simpa using hn)] at h
  cases h

/-! ### slices of the call's own -/
/-- The slice v reads l, and lies in a block of its own from block B on (or is nil). -/
def OwnI (w : World) (B E : Nat) (v : Value) (l : List Int) : Prop := w.ownsRow B E 1 v l.length (l.map (Value.int .i64))
theorem map_get (l : List Int) (i : Nat) (h : i < l.length) : (l.map (Value.int .i64))[i]? = some (.int .i64 (nth l i)) := by
  rw [List.getElem?_map, List.getElem?_eq_getElem h, nth_getElem l i h]; rfl
theorem OwnI.row {w : World} {B E : Nat} {v : Value} {l : List Int} (h : OwnI w B E v l) (hl : 0 < l.length) :
    ∃ g cap, v = .slice (some ⟨g, 0, none⟩) l.length cap ∧ B ≤ g ∧ g < w.heap.size ∧ (∀ i, i < l.length → w.cell? ⟨g, i, none⟩ = some (.int .i64 (nth l i))) ∧ ∀ i, w.frozen? ⟨g, i, none⟩ = false := by
  have h' := h
  rcases h'.2 with ⟨_, h0⟩ | ⟨g, cap, cur, rfl, hB, hg, _⟩
  · omega
  · refine ⟨g, cap, rfl, hB, (Array.getElem?_eq_some_iff.1 hg).1, fun i hi => ?_, fun i => World.ownsRow.frozenAt h i⟩
    rw [World.ownsRow.cellAt h i (by omega), map_get l i hi]
theorem OwnI.shape {w : World} {B E : Nat} {v : Value} {l : List Int} (h : OwnI w B E v l) : ∃ a cap, v = .slice a l.length cap ∧ IntsAt w a l := by
  by_cases hl : 0 < l.length
  · obtain ⟨g, cap, rfl, _, hg, hc, _⟩ := h.row hl
    exact ⟨_, cap, rfl, g, 0, fun _ => ⟨rfl, hg⟩, fun i hi => by rw [Nat.zero_add]; exact hc i hi⟩
  · rcases h.2 with ⟨rfl, h0⟩ | ⟨g, cap, cur, rfl, _⟩
    · exact ⟨none, 0, by rw [h0], 0, 0, fun h => absurd h hl, fun i hi => absurd hi (by omega)⟩
    · exact ⟨_, cap, rfl, 0, 0, fun h => absurd h hl, fun i hi => absurd hi (by omega)⟩
theorem Ext.grown {w w' : World} (h : Ext w w') (row : Option Nat) : w.grownBy w' row := ⟨h.os, h.tape, h.output, h.size, fun k hk _ => h.block k hk⟩
theorem own_ext {w w' : World} {B E s n : Nat} {v : Value} {xs : List Value} (h : w.ownsRow B E s v n xs) (e : Ext w w') : w'.ownsRow B E s v n xs :=
  World.ownsRow.kept h (e.grown none) (by cases hv : v.ownBlock <;> simp)
theorem own_mono {w : World} {B B' E s n : Nat} {v : Value} {xs : List Value} (h : w.ownsRow B E s v n xs) (hB : B' ≤ B) : w.ownsRow B' E s v n xs :=
  ⟨h.1, h.2.imp id fun ⟨g, cap, cur, h1, h2, h3⟩ => ⟨g, cap, cur, h1, Nat.le_trans hB h2, h3⟩⟩
theorem OwnI.ext {w w' : World} {B E : Nat} {v : Value} {l : List Int} (h : OwnI w B E v l) (e : Ext w w') : OwnI w' B E v l := own_ext h e
theorem OwnI.mono {w : World} {B B' E : Nat} {v : Value} {l : List Int} (h : OwnI w B E v l) (hB : B' ≤ B) : OwnI w B' E v l := own_mono h hB
theorem OwnI.set {w : World} {B E g cap : Nat} {l : List Int} (h : OwnI w B E (.slice (some ⟨g, 0, none⟩) l.length cap) l) (k : Nat) (u : Int) :
    OwnI (w.setCell ⟨g, k, none⟩ (.int .i64 u)) B E (.slice (some ⟨g, 0, none⟩) (l.set k u).length cap) (l.set k u) := by
  have := (World.ownsRow.stored h k (.int .i64 u)).1
  unfold OwnI
  rw [List.map_set, List.length_set]
  exact this
/-- Another row is written: this one stays. -/
theorem own_set_other {w : World} {B E s n : Nat} {v : Value} {xs : List Value} (h : w.ownsRow B E s v n xs) (p : Addr) (u : Value) (hp : v.ownBlock ≠ some p.block) : (w.setCell p u).ownsRow B E s v n xs := by
  refine World.ownsRow.kept h (w' := w.setCell p u) (row := some p.block) ⟨rfl, rfl, rfl, by simp, fun k _ hk => heap_setCell_other w p k u (fun e => hk (by simp [e]))⟩ (.inr hp)
theorem own_len {w : World} {B E cap n : Nat} {a : Option Addr} {l l' : List Int} (h : OwnI w B E (.slice a l.length cap) l) (e : l = l') (hn : l'.length = n) : OwnI w B E (.slice a n cap) l' := by
  subst e; subst hn; exact h
/-- What a call that makes a slice of ints comes to. -/
def RetI (E : Nat) (w : World) (l : List Int) (e : Ending) (w' : World) : Prop := ∃ v, e = .returned v ∧ OwnI w' w.heap.size E v l ∧ Ext w w'

/-- The first k places are filled, the others are 0. -/
def fillTo (l : List Int) (k : Nat) : List Int := l.take k ++ List.replicate (l.length - k) 0
theorem fillTo_length (l : List Int) (k : Nat) (h : k ≤ l.length) : (fillTo l k).length = l.length := by
  simp only [fillTo, List.length_append, List.length_take, List.length_replicate]; omega
theorem fillTo_zero (l : List Int) : fillTo l 0 = List.replicate l.length 0 := by simp [fillTo]
theorem fillTo_end (l : List Int) : fillTo l l.length = l := by simp [fillTo]
theorem fillTo_set (l : List Int) (k : Nat) (h : k < l.length) : (fillTo l k).set k (nth l k) = fillTo l (k + 1) := by
  have e : l.length - k = (l.length - (k + 1)) + 1 := by omega
  have el : (l.take k).length = k := by simp; omega
  have et : l.take (k + 1) = l.take k ++ [l[k]] := List.take_succ_eq_append_getElem h
  rw [fillTo, fillTo, et, e, List.replicate_succ, List.set_append_right _ _ (by omega), el, Nat.sub_self, List.set_cons_zero, nth_getElem l k h, List.append_assoc]
  rfl
theorem madeCells_int (n : Nat) : (madeCells (Value.int .i64 0).cells (n * 1)).toList = (List.replicate n (0 : Int)).map (Value.int .i64) := by
  simp only [madeCells, Value.cells, Nat.mul_one, List.map_replicate]
  apply List.ext_getElem?
  intro i
  by_cases hi : i < n <;> simp [hi, Nat.mod_one]

theorem own_made {w : World} {B E n : Nat} {v : Value} (h : w.ownsRow B E 1 v n (madeCells #[Value.int .i64 0] n).toList) : OwnI w B E v (List.replicate n 0) := by
  have e : (madeCells #[Value.int .i64 0] n).toList = (List.replicate n (0 : Int)).map (Value.int .i64) := by
    have := madeCells_int n
    rw [Nat.mul_one] at this; exact this
  unfold OwnI
  rw [List.length_replicate, ← e]
  exact h
theorem Ext.of_grown {w w' : World} (h : w.grownBy w' none) : Ext w w' := ⟨h.os, h.tape, h.output, h.size, fun k hk => h.block k hk (by simp)⟩

theorem OwnI.nil (w : World) (B E : Nat) : OwnI w B E (.slice none 0 0) [] := ⟨rfl, .inl ⟨rfl, rfl⟩⟩
theorem OwnI.empty (w : World) (E : Nat) : OwnI (w.alloc (.cells #[] E)) w.heap.size E (.slice (some ⟨w.heap.size, 0, none⟩) 0 0) [] :=
  World.ownsRow_made w #[] 0 (Nat.le_refl _) (by unfold maxLen; omega) rfl
theorem OwnI.grown {w0 w w' : World} {E : Nat} {v : Value} {l : List Int} (h : OwnI w w0.heap.size E v l) (hx : Ext w0 w) (hg : w.grownBy w' v.ownBlock) : Ext w0 w' :=
  Below.grown hx hg hx.size fun k hk => (World.ownsRow.lt h k hk).1
/-- append(s, u) on a slice of the call's own. -/
theorem append_int {P : Program} {ops : Array Oper} {rest : List Oper} {o : Oper} {a : Act} {Q : Exit → Act → World → Prop} {w : World} (hgd : o.guard = none) (s x : Operand) (t : TypeId)
    (ho : o.op = .call { callee := .builtin .append, args := #[s, x], argTypes := #[t, t] }) (B E : Nat) (ht : P.underlying t = some (.slice E))
    (hinfo : (P.info? E).map (fun i => (i.zero, i.size, i.bytes)) = some (some (.int .i64 0), 1, 8))
    (v : Value) (l : List Int) (hs : a.eval s = v) (hown : OwnI w B E v l) (g : Nat) (u : Int) (hx : a.eval x = .slice (some ⟨g, 0, none⟩) 1 1) (hcell : w.cell? ⟨g, 0, none⟩ = some (.int .i64 u))
    (hlen : l.length + 1 ≤ 1099511627776) (hB : B ≤ w.heap.size)
    (h : ∀ v' w', OwnI w' B E v' (l ++ [u]) → w.grownBy w' v.ownBlock → wpList P ops Q rest (a.put o.dst v') w') : wpList P ops Q (o :: rest) a w := by
  obtain ⟨i, hi, hz0, hz1, hz2⟩ := info_parts hinfo
  refine wpList_append_own _ hgd s x t ho B E i (.int .i64 0) 1 8 ht hi hz0 hz1 hz2 rfl (by decide) v l.length (l.map (Value.int .i64)) hs hown ⟨g, 0, none⟩ 1 1 [.int .i64 u] hx rfl ?_ ?_ (by unfold maxLen; omega) (by omega) hB ?_
  · intro j u' hj
    match j, hj with
    | 0, hj =>
      simp only [List.getElem?_cons_zero, Option.some.injEq] at hj
      subst hj
      simpa [Addr.add] using hcell
    | j + 1, hj => simp at hj
  · intro u' hu
    simp only [List.mem_singleton] at hu
    subst hu; rfl
  · intro v' w' h1 h2 _
    refine h v' w' ?_ h2
    unfold OwnI
    rw [List.map_append, List.length_append]
    exact h1

/-! ### marks in a slice of the call's own -/
theorem OwnI.ints {w : World} {B E : Nat} {a : Option Addr} {n cap : Nat} {l : List Int} (h : OwnI w B E (.slice a n cap) l) : IntsAt w a l := by
  obtain ⟨a', cap', hv, hi⟩ := h.shape
  obtain ⟨rfl, _, _⟩ : a = a' ∧ n = l.length ∧ cap = cap' := by simpa using hv
  exact hi
theorem OwnI.len {w : World} {B E : Nat} {a : Option Addr} {n cap : Nat} {l : List Int} (h : OwnI w B E (.slice a n cap) l) : n = l.length := by
  obtain ⟨a', cap', hv, hi⟩ := h.shape
  have : a = a' ∧ n = l.length ∧ cap = cap' := by simpa using hv
  exact this.2.1
/-- Two slices of the call's own, one made when the other was there: they lie apart. -/
theorem own_apart {w w' : World} {B B' E E' s s' n n' : Nat} {v u : Value} {xs ys : List Value} (h : w.ownsRow B E s v n xs) (k : w'.ownsRow B' E' s' u n' ys) (hB : w.heap.size ≤ B') :
    (v.ownBlock = none ∨ v.ownBlock ≠ u.ownBlock) ∧ (u.ownBlock = none ∨ u.ownBlock ≠ v.ownBlock) := by
  cases hv : v.ownBlock with
  | none => exact ⟨.inl rfl, by cases hu : u.ownBlock <;> simp⟩
  | some g =>
    cases hu : u.ownBlock with
    | none => exact ⟨.inr (by simp), .inl rfl⟩
    | some g' =>
      have h1 := (World.ownsRow.lt h g hv).2
      have h2 := (World.ownsRow.lt k g' hu).1
      exact ⟨.inr (by simp; omega), .inr (by simp; omega)⟩
theorem OwnI.kept {w w' : World} {B E : Nat} {v : Value} {l : List Int} {row : Option Nat} (h : OwnI w B E v l) (hg : w.grownBy w' row) (hne : v.ownBlock = none ∨ v.ownBlock ≠ row) : OwnI w' B E v l :=
  World.ownsRow.kept h hg hne
theorem grown_setCell {w w' : World} {row : Option Nat} (h : w.grownBy w' row) {p : Addr} {u : Value} (hp : row = some p.block) : w.grownBy (w'.setCell p u) row :=
  ⟨h.os, h.tape, h.output, by simpa [World.setCell] using h.size, fun k hk hne => (Below.heap_setCell w' p u k (by rintro rfl; exact hne hp.symm)).trans (h.block k hk hne)⟩
/-- The numbers from k on. -/
def marks (k : Int) (n : Nat) : List Int := (List.range n).map fun (i : Nat) => k + (i : Int)
theorem marks_length (k : Int) (n : Nat) : (marks k n).length = n := by simp [marks]
theorem marks_get (k : Int) (n i : Nat) (h : i < n) : nth (marks k n) i = k + i := by
  rw [nth_getElem _ _ (by rw [marks_length]; exact h)]; simp [marks]
def markTo (l : List Int) (k : Int) (j : Nat) : List Int := marks k j ++ l.drop j
theorem markTo_length (l : List Int) (k : Int) (j : Nat) (h : j ≤ l.length) : (markTo l k j).length = l.length := by
  simp only [markTo, List.length_append, marks_length, List.length_drop]; omega
theorem markTo_zero (l : List Int) (k : Int) : markTo l k 0 = l := by simp [markTo, marks]
theorem markTo_end (l : List Int) (k : Int) : markTo l k l.length = marks k l.length := by simp [markTo]
theorem markTo_set (l : List Int) (k : Int) (j : Nat) (h : j < l.length) : (markTo l k j).set j (k + j) = markTo l k (j + 1) := by
  have e : l.drop j = l[j] :: l.drop (j + 1) := List.drop_eq_getElem_cons h
  have em : marks k (j + 1) = marks k j ++ [k + j] := by simp [marks, List.range_succ]
  rw [markTo, markTo, e, em, List.set_append_right _ _ (by rw [marks_length]; omega), marks_length, Nat.sub_self, List.set_cons_zero, List.append_assoc]
  rfl
/-- What marking a slice of the call's own comes to. -/
def MarkedI (w : World) (B E : Nat) (v : Value) (n : Nat) (k : Int) (e : Ending) (w' : World) : Prop :=
  e = .returned (.int .i64 (k + n)) ∧ OwnI w' B E v (marks k n) ∧ w.grownBy w' v.ownBlock

/-- A region that draws its order: reads and quiet calls first, then a forced tail. -/
theorem still_tail {P : Program} {id : Nat} {Q : Exit → Act → World → Prop} {a : Act} {w : World} {l : List Oper} (n : Nat) (hm : P.follows .mixedOrders = true) (hB : Region.lexTailB .any l.toArray n = true)
    (h : wpStill P l.toArray w.drew (fun a' => wpList P l.toArray Q (l.drop n) a' w.drew) (l.take n) a) : (Code.region id l.toArray true).wp P Q a w :=
  wp_region_still_tail n hm hB h

/-- append(s, u) on a slice of the call's own, at a step of a region that draws its order. -/
theorem step_append_int {P : Program} {ops : Array Oper} {o : Oper} {a : Act} {K : Act → World → Prop} {Q : Exit → Act → World → Prop} {E : Prop} {w : World} (hgd : o.guard = none) (s x : Operand) (t : TypeId)
    (ho : o.op = .call { callee := .builtin .append, args := #[s, x], argTypes := #[t, t] }) (B E' : Nat) (ht : P.underlying t = some (.slice E'))
    (hinfo : (P.info? E').map (fun i => (i.zero, i.size, i.bytes)) = some (some (.int .i64 0), 1, 8))
    (v : Value) (l : List Int) (hs : a.eval s = v) (hown : OwnI w B E' v l) (g : Nat) (u : Int) (hx : a.eval x = .slice (some ⟨g, 0, none⟩) 1 1) (hcell : w.cell? ⟨g, 0, none⟩ = some (.int .i64 u))
    (hlen : l.length + 1 ≤ 1099511627776) (hB : B ≤ w.heap.size)
    (h : ∀ v' w', OwnI w' B E' v' (l ++ [u]) → w.grownBy w' v.ownBlock → K (a.put o.dst v') w') :
    if Region.wanted o (yielded ops a.tmps) = true then Oper.wp P o a w K Q else E := by
  have hw : Region.wanted o (yielded ops a.tmps) = true := by simp [Region.wanted, hgd]
  rw [if_pos hw]
  obtain ⟨i, hi, hz0, hz1, hz2⟩ := info_parts hinfo
  refine wp_append_own w s x t ho B E' i (.int .i64 0) 1 8 ht hi hz0 hz1 hz2 rfl (by decide) v l.length (l.map (Value.int .i64)) hs hown ⟨g, 0, none⟩ 1 1 [.int .i64 u] hx rfl ?_ ?_ (by unfold maxLen; omega) (by omega) hB ?_
  · intro j u' hj
    match j, hj with
    | 0, hj =>
      simp only [List.getElem?_cons_zero, Option.some.injEq] at hj
      subst hj
      simpa [Addr.add] using hcell
    | j + 1, hj => simp at hj
  · intro u' hu
    simp only [List.mem_singleton] at hu
    subst hu; rfl
  · intro v' w' h1 h2 _
    refine h v' w' ?_ h2
    unfold OwnI
    rw [List.map_append, List.length_append]
    exact h1

end Go.Kt
/- Plain law: sets of states as numbers, rows of sets, and what the program's loops over them gather. No program in sight. -/
namespace Go.Kt
set_option linter.unusedVariables false
open Go.RowKit

/-! ### sets as numbers -/
/-- The i-th set of a row. -/
def natAt (l : List Int) (i : Nat) : Nat := (nth l i).toNat
/-- All are sets (of at most 31 states). -/
def Sets (l : List Int) : Prop := ∀ i, i < l.length → 0 ≤ nth l i ∧ nth l i < 4294967296
theorem Sets.eq {l : List Int} (h : Sets l) (i : Nat) (hi : i < l.length) : nth l i = ((natAt l i : Nat) : Int) := by
  have := h i hi
  unfold natAt
  omega
theorem Sets.lt {l : List Int} (h : Sets l) (i : Nat) (hi : i < l.length) : natAt l i < 4294967296 := by
  have := h i hi
  unfold natAt
  omega
theorem and_or_add (a b : Nat) : a + b = (a ||| b) + (a &&& b) := by
  induction a using Nat.strongRecOn generalizing b with
  | ind a ih =>
    by_cases h0 : a = 0
    · subst h0; simp
    · have h1 := ih (a / 2) (by omega) (b / 2)
      have ho := Nat.div_add_mod (a ||| b) 2
      have ha := Nat.div_add_mod (a &&& b) 2
      rw [Nat.or_div_two] at ho
      rw [Nat.and_div_two] at ha
      have e1 := Nat.or_mod_two_eq_one (a := a) (b := b)
      have e2 := Nat.and_mod_two_eq_one (a := a) (b := b)
      omega
/-- One or the other; both (behind names that the walk does not open). -/
def orN (a b : Nat) : Nat := a ||| b
def andN (a b : Nat) : Nat := a &&& b
theorem i64_orN (a b : Nat) (ha : a < 4294967296) (hb : b < 4294967296) : bits .or .i64 (a : Int) (b : Int) = ((orN a b : Nat) : Int) := i64_or a b (by omega) (by omega)
theorem i64_andN (a b : Nat) (ha : a < 4294967296) (hb : b < 4294967296) : bits .and .i64 (a : Int) (b : Int) = ((andN a b : Nat) : Int) := i64_and a b (by omega) (by omega)
theorem orN_lt {a b m : Nat} (ha : a < 2 ^ m) (hb : b < 2 ^ m) : orN a b < 2 ^ m := Nat.or_lt_two_pow ha hb
theorem orN_add (a b : Nat) : (a : Int) + (b : Int) - ((andN a b : Nat) : Int) = ((orN a b : Nat) : Int) := by
  have h : a + b = (a ||| b) + (a &&& b) := and_or_add a b
  unfold andN orN
  omega
theorem andN_le (a b : Nat) : andN a b ≤ a := Nat.and_le_left
/-- Row by row one or the other. -/
def plusTo (a b : List Int) (k : Nat) : List Int := (List.range k).map fun i => ((orN (natAt a i) (natAt b i) : Nat) : Int)
theorem plusTo_succ (a b : List Int) (k : Nat) : plusTo a b (k + 1) = plusTo a b k ++ [((orN (natAt a k) (natAt b k) : Nat) : Int)] := by
  simp [plusTo, List.range_succ]
theorem plusTo_length (a b : List Int) (k : Nat) : (plusTo a b k).length = k := by simp [plusTo]

theorem plusTo_get (a b : List Int) (k i : Nat) (h : i < k) : nth (plusTo a b k) i = ((orN (natAt a i) (natAt b i) : Nat) : Int) := by
  rw [nth_getElem _ _ (by rw [plusTo_length]; exact h)]; simp [plusTo]

/-- To where rows lead from a set, as far as the first k rows tell. -/
def imgTo (b : List Int) (set : Nat) : Nat → Nat
  | 0 => 0
  | k + 1 => if set.testBit k then orN (imgTo b set k) (natAt b k) else imgTo b set k
def img (b : List Int) (set : Nat) : Nat := imgTo b set b.length
theorem imgTo_zero (b : List Int) (set : Nat) : imgTo b set 0 = 0 := rfl
theorem imgTo_succ (b : List Int) (set k : Nat) : imgTo b set (k + 1) = if set.testBit k then orN (imgTo b set k) (natAt b k) else imgTo b set k := rfl
theorem imgTo_lt {b : List Int} {m : Nat} (h : ∀ i, i < b.length → natAt b i < 2 ^ m) (set : Nat) : ∀ k, k ≤ b.length → imgTo b set k < 2 ^ m
  | 0, _ => Nat.two_pow_pos m
  | k + 1, hk => by
    rw [imgTo_succ]
    split
    · exact orN_lt (imgTo_lt h set k (by omega)) (h k (by omega))
    · exact imgTo_lt h set k (by omega)
theorem img_lt {b : List Int} {m : Nat} (h : ∀ i, i < b.length → natAt b i < 2 ^ m) (set : Nat) : img b set < 2 ^ m := imgTo_lt h set _ (Nat.le_refl _)
theorem Sets.pow {l : List Int} (h : Sets l) : ∀ i, i < l.length → natAt l i < 2 ^ 32 := fun i hi => h.lt i hi

/-- Rows one behind the other. -/
def thenTo (a b : List Int) (k : Nat) : List Int := (List.range k).map fun i => ((img b (natAt a i) : Nat) : Int)
theorem thenTo_succ (a b : List Int) (k : Nat) : thenTo a b (k + 1) = thenTo a b k ++ [((img b (natAt a k) : Nat) : Int)] := by
  simp [thenTo, List.range_succ]
theorem thenTo_length (a b : List Int) (k : Nat) : (thenTo a b k).length = k := by simp [thenTo]
theorem thenTo_get (a b : List Int) (k i : Nat) (h : i < k) : nth (thenTo a b k) i = ((img b (natAt a i) : Nat) : Int) := by
  rw [nth_getElem _ _ (by rw [thenTo_length]; exact h)]; simp [thenTo]

/-- 2^k behind a name. -/
def pow2 (k : Nat) : Nat := 2 ^ k
theorem pow2_cast (k : Nat) : (2 : Int) ^ k = ((pow2 k : Nat) : Int) := by simp [pow2]
theorem pow2_le (k m : Nat) (h : k ≤ m) : pow2 k ≤ pow2 m := Nat.pow_le_pow_right (by decide) h
theorem pow2_lt (k m : Nat) (h : k < m) : pow2 k < pow2 m := Nat.pow_lt_pow_right (by decide) h
theorem pow2_pos (k : Nat) : 1 ≤ pow2 k := Nat.one_le_two_pow
/-- A set and to where it leads, once, and i times. -/
def stepN (a : List Int) (s : Nat) : Nat := orN s (img a s)
def iterN (a : List Int) (s : Nat) : Nat → Nat
  | 0 => s
  | i + 1 => stepN a (iterN a s i)
def clo (a : List Int) (s : Nat) : Nat := iterN a s 32
theorem iterN_zero (a : List Int) (s : Nat) : iterN a s 0 = s := rfl
theorem iterN_succ (a : List Int) (s i : Nat) : iterN a s (i + 1) = stepN a (iterN a s i) := rfl
theorem stepN_ge (a : List Int) (s : Nat) : s ≤ stepN a s := Nat.left_le_or
theorem stepN_lt {a : List Int} {m : Nat} (h : ∀ i, i < a.length → natAt a i < 2 ^ m) {s : Nat} (hs : s < 2 ^ m) : stepN a s < 2 ^ m := orN_lt hs (img_lt h s)
theorem iterN_lt {a : List Int} {m : Nat} (h : ∀ i, i < a.length → natAt a i < 2 ^ m) {s : Nat} (hs : s < 2 ^ m) : ∀ i, iterN a s i < 2 ^ m
  | 0 => hs
  | i + 1 => stepN_lt h (iterN_lt h hs i)
theorem iterN_fix (a : List Int) (s i : Nat) (hf : stepN a (iterN a s i) = iterN a s i) : ∀ j, iterN a s (i + j) = iterN a s i
  | 0 => rfl
  | j + 1 => by rw [← Nat.add_assoc, iterN_succ, iterN_fix a s i hf j, hf]
theorem clo_of_fix (a : List Int) (s i : Nat) (hi : i ≤ 32) (hf : stepN a (iterN a s i) = iterN a s i) : clo a s = iterN a s i := by
  have := iterN_fix a s i hf (32 - i)
  rwa [show i + (32 - i) = 32 by omega] at this
theorem clo_lt {a : List Int} {m : Nat} (h : ∀ i, i < a.length → natAt a i < 2 ^ m) {s : Nat} (hs : s < 2 ^ m) : clo a s < 2 ^ m := iterN_lt h hs 32
/-- Again and again. -/
def starTo (a : List Int) (k : Nat) : List Int := (List.range k).map fun i => ((clo a (pow2 i) : Nat) : Int)
theorem starTo_succ (a : List Int) (k : Nat) : starTo a (k + 1) = starTo a k ++ [((clo a (pow2 k) : Nat) : Int)] := by
  simp [starTo, List.range_succ]
theorem starTo_length (a : List Int) (k : Nat) : (starTo a k).length = k := by simp [starTo]
theorem starTo_get (a : List Int) (k i : Nat) (h : i < k) : nth (starTo a k) i = ((clo a (pow2 i) : Nat) : Int) := by
  rw [nth_getElem _ _ (by rw [starTo_length]; exact h)]; simp [starTo]

/-- The states (of the first j) from which rows lead to the state t. -/
def backSet (a : List Int) (t : Nat) : Nat → Nat
  | 0 => 0
  | j + 1 => backSet a t j + if (natAt a j).testBit t then pow2 j else 0
theorem backSet_zero (a : List Int) (t : Nat) : backSet a t 0 = 0 := rfl
theorem backSet_succ (a : List Int) (t j : Nat) : backSet a t (j + 1) = backSet a t j + if (natAt a j).testBit t then pow2 j else 0 := rfl
theorem backSet_lt (a : List Int) (t : Nat) : ∀ j, backSet a t j < 2 ^ j
  | 0 => by simp [backSet]
  | j + 1 => by
    have := backSet_lt a t j
    rw [backSet_succ, Nat.pow_succ]
    unfold pow2
    split <;> omega
theorem backSet_or (a : List Int) (t j : Nat) (h : (natAt a j).testBit t = true) : orN (backSet a t j) (pow2 j) = backSet a t (j + 1) := by
  have := Nat.two_pow_add_eq_or_of_lt (backSet_lt a t j) 1
  rw [Nat.mul_one] at this
  rw [backSet_succ, if_pos h, orN, pow2, Nat.or_comm, ← this, Nat.add_comm]
/-- Rows back. -/
def backTo (a : List Int) (k : Nat) : List Int := (List.range k).map fun t => ((backSet a t a.length : Nat) : Int)
theorem backTo_succ (a : List Int) (k : Nat) : backTo a (k + 1) = backTo a k ++ [((backSet a k a.length : Nat) : Int)] := by
  simp [backTo, List.range_succ]
theorem backTo_length (a : List Int) (k : Nat) : (backTo a k).length = k := by simp [backTo]
theorem backTo_get (a : List Int) (k i : Nat) (h : i < k) : nth (backTo a k) i = ((backSet a i a.length : Nat) : Int) := by
  rw [nth_getElem _ _ (by rw [backTo_length]; exact h)]; simp [backTo]

/-- Behind the first k rows, and of the next one the first t states. -/
def backMix (a : List Int) (n k t : Nat) : List Int := (List.range n).map fun i => ((if i < t then backSet a i (k + 1) else backSet a i k : Nat) : Int)
theorem backMix_length (a : List Int) (n k t : Nat) : (backMix a n k t).length = n := by simp [backMix]
theorem backMix_get (a : List Int) (n k t i : Nat) (h : i < n) : nth (backMix a n k t) i = ((if i < t then backSet a i (k + 1) else backSet a i k : Nat) : Int) := by
  rw [nth_getElem _ _ (by rw [backMix_length]; exact h)]; simp [backMix]
theorem backMix_zero (a : List Int) (n : Nat) : backMix a n 0 0 = List.replicate n 0 := by
  apply List.ext_getElem
  · simp [backMix]
  · intro i h1 h2
    simp [backMix, backSet]
theorem backMix_next (a : List Int) (n k : Nat) : backMix a n k n = backMix a n (k + 1) 0 := by
  simp only [backMix]
  apply List.map_congr_left
  intro i hi
  have : i < n := by simpa using hi
  simp [this]
theorem backMix_end (a : List Int) (n : Nat) : backMix a n a.length 0 = backTo a n := by
  simp only [backMix, backTo]
  apply List.map_congr_left
  intro i _
  simp
theorem backMix_skip (a : List Int) (n k t : Nat) (h : (natAt a k).testBit t = false) : backMix a n k (t + 1) = backMix a n k t := by
  simp only [backMix]
  apply List.map_congr_left
  intro i _
  by_cases h1 : i < t
  · rw [if_pos h1, if_pos (by omega)]
  · by_cases h2 : i = t
    · subst h2
      rw [if_pos (by omega), if_neg (by omega), backSet_succ, h]; simp
    · rw [if_neg h1, if_neg (by omega)]
theorem backMix_set (a : List Int) (n k t : Nat) (h : (natAt a k).testBit t = true) : (backMix a n k t).set t ((orN (backSet a t k) (pow2 k) : Nat) : Int) = backMix a n k (t + 1) := by
  rw [backSet_or a t k h]
  apply List.ext_getElem
  · simp [backMix]
  · intro i h1 h2
    by_cases hi : i = t
    · subst hi; simp [backMix]
    · rw [List.getElem_set_ne (by omega)]
      simp only [backMix, List.getElem_map, List.getElem_range]
      by_cases h3 : i < t
      · rw [if_pos h3, if_pos (by omega)]
      · rw [if_neg h3, if_neg (by omega)]

end Go.Kt
