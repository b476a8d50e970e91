/- Merged texts: contracts and plain lemmas (Base, Kg, Ya, Yb, Sets, Flat, Sets2, Code, Any, Rows2, Pg, Tr, Mp, Rows3, Sm, Yc, Za, Pt, Pq). -/
import Derived.WalkKit
import Derived.WalkSpells
import Derived.WalkLawsBesides
import Derived.Lib.Hide
import Derived.BigQuiet
import Derived.Deep.QuietTactic
import Derived.StillTailTactics
import Derived.Deep.RegionHeld3
import Derived.BigFrame
namespace Go.Kt
set_option linter.unusedVariables false
open Go.RowKit

theorem ofInt_i64 (a : Nat) (ha : a < 9223372036854775808) : (BitVec.ofInt 64 (a : Int)).toNat = a := by
  rw [BitVec.ofInt_natCast, BitVec.toNat_ofNat]; exact Nat.mod_eq_of_lt (by omega)
theorem i64_and (a b : Nat) (ha : a < 9223372036854775808) (hb : b < 9223372036854775808) : bits .and .i64 (a : Int) (b : Int) = ((a &&& b : Nat) : Int) := by
  have hx : a &&& b < 2 ^ 63 := Nat.and_lt_two_pow _ (by omega)
  show IntKind.i64.wrap ((BitVec.ofInt 64 (a : Int) &&& BitVec.ofInt 64 (b : Int)).toNat : Int) = _
  rw [BitVec.toNat_and, ofInt_i64 a ha, ofInt_i64 b hb, IntKind.wrap_i64]
  omega
theorem i64_or (a b : Nat) (ha : a < 9223372036854775808) (hb : b < 9223372036854775808) : bits .or .i64 (a : Int) (b : Int) = ((a ||| b : Nat) : Int) := by
  have hx : a ||| b < 2 ^ 63 := Nat.or_lt_two_pow (by omega) (by omega)
  show IntKind.i64.wrap ((BitVec.ofInt 64 (a : Int) ||| BitVec.ofInt 64 (b : Int)).toNat : Int) = _
  rw [BitVec.toNat_or, ofInt_i64 a ha, ofInt_i64 b hb, IntKind.wrap_i64]
  omega
theorem i64_xor (a b : Nat) (ha : a < 9223372036854775808) (hb : b < 9223372036854775808) : bits .xor .i64 (a : Int) (b : Int) = ((a ^^^ b : Nat) : Int) := by
  have hx : a ^^^ b < 2 ^ 63 := Nat.xor_lt_two_pow (by omega) (by omega)
  show IntKind.i64.wrap ((BitVec.ofInt 64 (a : Int) ^^^ BitVec.ofInt 64 (b : Int)).toNat : Int) = _
  rw [BitVec.toNat_xor, ofInt_i64 a ha, ofInt_i64 b hb, IntKind.wrap_i64]
  omega
theorem i64_and_one (a : Nat) (ha : a < 9223372036854775808) : bits .and .i64 (a : Int) 1 = ((a % 2 : Nat) : Int) := by
  have := i64_and a 1 ha (by decide)
  rw [Nat.and_one_is_mod] at this; exact this
/-- The bit k of a small number, as Go asks for it. -/
theorem i64_bit (t k : Nat) (ht : t < 9223372036854775808) : bits .and .i64 ((t : Int) / 2 ^ k) 1 = (((t.testBit k).toNat : Nat) : Int) := by
  have e : ((t : Int) / 2 ^ k) = ((t / 2 ^ k : Nat) : Int) := by simp
  have hle : t / 2 ^ k ≤ t := Nat.div_le_self _ _
  rw [e, i64_and_one _ (by omega), Nat.toNat_testBit]
theorem i64_bit_eq (t k : Nat) (ht : t < 9223372036854775808) : (bits .and .i64 ((t : Int) / 2 ^ k) 1 == 1) = t.testBit k := by
  rw [i64_bit t k ht]; cases t.testBit k <;> rfl
theorem tmod_bit (t k : Nat) : ((t : Int) / 2 ^ k).tmod 2 = (((t.testBit k).toNat : Nat) : Int) := by
  have e : ((t : Int) / 2 ^ k) = ((t / 2 ^ k : Nat) : Int) := by simp
  rw [e, Nat.toNat_testBit, Int.tmod_eq_emod_of_nonneg (Int.natCast_nonneg _)]; rfl
theorem pow_pos' (s : Nat) : (1 : Int) ≤ (2 : Int) ^ s := by
  have h : 1 ≤ (2 : Nat) ^ s := Nat.one_le_two_pow
  have : ((1 : Nat) : Int) ≤ ((2 ^ s : Nat) : Int) := by exact_mod_cast h
  simpa using this
theorem pow_le_big (s m : Nat) (hs : s ≤ m) : (2 : Int) ^ s ≤ 2 ^ m := by
  have h : (2 : Nat) ^ s ≤ 2 ^ m := Nat.pow_le_pow_right (by decide) hs
  have : ((2 ^ s : Nat) : Int) ≤ ((2 ^ m : Nat) : Int) := by exact_mod_cast h
  simpa using this

/-- The lowest k bits of what is in both. -/
def andTo (a b k : Nat) : Nat := (a &&& b) % 2 ^ k
theorem andTo_zero (a b : Nat) : andTo a b 0 = 0 := by simp [andTo, Nat.mod_one]
theorem andTo_le (a b k : Nat) : andTo a b k ≤ a := Nat.le_trans (Nat.mod_le _ _) Nat.and_le_left
theorem andTo_succ (a b k : Nat) : andTo a b (k + 1) = andTo a b k + (if a.testBit k && b.testBit k then 2 ^ k else 0) := by
  unfold andTo
  rw [Nat.pow_succ, Nat.mod_mul, ← Nat.toNat_testBit, Nat.testBit_and]
  cases (a.testBit k && b.testBit k) <;> simp
theorem andTo_end (a b k : Nat) (h : a < 2 ^ k ∨ b < 2 ^ k) : andTo a b k = a &&& b := by
  unfold andTo
  refine Nat.mod_eq_of_lt ?_
  rcases h with h | h
  · exact Nat.lt_of_le_of_lt Nat.and_le_left h
  · exact Nat.lt_of_le_of_lt Nat.and_le_right h

/-- Of what was there nothing has turned. -/
abbrev Ext (w w' : World) : Prop := Below w.heap.size w w'
theorem Ext.refl (w : World) : Ext w w := Below.refl _ _
theorem Ext.trans {a b c : World} (h : Ext a b) (k : Ext b c) : Ext a c := Below.trans h (k.mono h.size)
theorem Ext.drew {w w' : World} (h : Ext w w') : Ext w w'.drew := Below.drew h
theorem Ext.drewN {w w' : World} (h : Ext w w') (n : Nat) : Ext w (w'.drewN n) := below_drewN h n
theorem Ext.alloc {w w' : World} (h : Ext w w') (o : Obj) : Ext w (w'.alloc o) := Below.alloc h h.size o
theorem Ext.setCell {w w' : World} (h : Ext w w') {p : Addr} (hp : w.heap.size ≤ p.block) (u : Value) : Ext w (w'.setCell p u) := Below.setCell h hp u
theorem Ext.cells {w w' : World} (h : Ext w w') : (∀ b o, b < w.heap.size → w'.cell? ⟨b, o, none⟩ = w.cell? ⟨b, o, none⟩) ∧ (∀ b o, b < w.heap.size → w'.frozen? ⟨b, o, none⟩ = w.frozen? ⟨b, o, none⟩) :=
  ⟨fun b o k => h.cell (p := ⟨b, o, none⟩) k, fun b o k => h.frozen (p := ⟨b, o, none⟩) k⟩
theorem Ext.cell' {w w' : World} (h : Ext w w') {b o : Nat} {v : Value} (k : w.cell? ⟨b, o, none⟩ = some v) (hb : b < w.heap.size) : w'.cell? ⟨b, o, none⟩ = some v := by
  rw [h.cell (p := ⟨b, o, none⟩) hb]; exact k

theorem cell_new0 (w : World) (v : Value) (t : TypeId) : (w.alloc (.cells #[v] t)).cell? ⟨w.heap.size, 0, none⟩ = some v := by
  simp

/-- A callee that only draws, met inside a quiet region. -/
theorem quiet_drawn {P : Program} {f : FuncId} {args : Array Value} {w : World} {n : Nat} {v : Value}
    (h : Calls P f args (w.drewN n) fun e w' => e = .returned v ∧ ∃ m, w' = (w.drewN n).drewN m) : Calls P f args (w.drewN n) fun e w'' => e = .returned v ∧ ∃ m, w'' = w.drewN m :=
  h.mono fun _ _ ⟨he, m, hm⟩ => ⟨he, n + m, by rw [hm, World.drewN_drewN]⟩
theorem quiet_drawn_add {P : Program} {f : FuncId} {args : Array Value} {w : World} {a n : Nat} {v : Value}
    (h : Calls P f args (w.drewN (a + n)) fun e w' => e = .returned v ∧ ∃ m, w' = (w.drewN (a + n)).drewN m) :
    Calls P f args (w.drewN (a + n)) fun e w'' => e = .returned v ∧ ∃ m, w'' = w.drewN (a + m) :=
  h.mono fun _ _ ⟨he, m, hm⟩ => ⟨he, n + m, by rw [hm, World.drewN_drewN, Nat.add_assoc]⟩

theorem drawn2 (w : World) (m n : Nat) : ∃ k, (w.drewN m).drewN n = w.drewN k := ⟨_, World.drewN_drewN _ _ _⟩

def nth (l : List Int) (i : Nat) : Int := l.getD i 0
/-- What a slice of ints (its first cell's address, nil where it is empty, as the case may be) reads as. -/
def IntsAt (w : World) (a : Option Addr) (l : List Int) : Prop :=
  ∃ b off, (0 < l.length → a = some ⟨b, off, none⟩ ∧ b < w.heap.size) ∧ ∀ i, i < l.length → w.cell? ⟨b, off + i, none⟩ = some (.int .i64 (nth l i))
theorem IntsAt.ext {w w' : World} {a : Option Addr} {l : List Int} (h : IntsAt w a l) (e : Ext w w') : IntsAt w' a l := by
  obtain ⟨b, off, h1, h2⟩ := h
  refine ⟨b, off, fun h0 => ⟨(h1 h0).1, Nat.lt_of_lt_of_le (h1 h0).2 e.size⟩, fun i hi => ?_⟩
  exact e.cell' (h2 i hi) (h1 (by omega)).2
theorem nth_getElem (l : List Int) (i : Nat) (h : i < l.length) : nth l i = l[i] := by
  unfold nth
  rw [List.getD_eq_getElem?_getD, List.getElem?_eq_getElem h]; rfl
theorem upto_succ {P : Nat → Prop} {k : Nat} (h : ∀ j, j < k → P j) (hk : P k) : ∀ j, j < k + 1 → P j := fun j hj => by
  rcases Nat.lt_or_ge j k with h' | h'
  · exact h j h'
  · obtain rfl : j = k := by omega
    exact hk
theorem ext_nth (l l' : List Int) (h : l.length = l'.length) (e : ∀ j, j < l.length → nth l j = nth l' j) : l = l' := by
  apply List.ext_getElem h
  intro i h1 h2
  have := e i h1
  rwa [nth_getElem l i h1, nth_getElem l' i h2] at this
/-- The i-th row. -/
def rowI (ll : List (List Int)) (i : Nat) : List Int := ll.getD i []
theorem rowI_getElem (ll : List (List Int)) (i : Nat) (h : i < ll.length) : rowI ll i = ll[i] := by
  unfold rowI
  rw [List.getD_eq_getElem?_getD, List.getElem?_eq_getElem h]; rfl
theorem rowI_mem (ll : List (List Int)) (i : Nat) (h : i < ll.length) : rowI ll i ∈ ll := by
  rw [rowI_getElem ll i h]; exact List.getElem_mem h
/-- Slices of slices of ints: each cell holds a slice that reads as its row. -/
def RowsAt (w : World) (a : Option Addr) (ll : List (List Int)) : Prop :=
  ∃ b off, (0 < ll.length → a = some ⟨b, off, none⟩ ∧ b < w.heap.size) ∧
    ∀ i, i < ll.length → ∃ ai ci, w.cell? ⟨b, off + i, none⟩ = some (.slice ai (rowI ll i).length ci) ∧ IntsAt w ai (rowI ll i)
theorem RowsAt.ext {w w' : World} {a : Option Addr} {ll : List (List Int)} (h : RowsAt w a ll) (e : Ext w w') : RowsAt w' a ll := by
  obtain ⟨b, off, h1, h2⟩ := h
  refine ⟨b, off, fun h0 => ⟨(h1 h0).1, Nat.lt_of_lt_of_le (h1 h0).2 e.size⟩, fun i hi => ?_⟩
  obtain ⟨ai, ci, h3, h4⟩ := h2 i hi
  exact ⟨ai, ci, e.cell' h3 (h1 (by omega)).2, h4.ext e⟩

/-- What a slice of bytes reads as. -/
def BytesAt (w : World) (a : Option Addr) (l : List Int) : Prop :=
  ∃ b off, (0 < l.length → a = some ⟨b, off, none⟩ ∧ b < w.heap.size) ∧ ∀ i, i < l.length → w.cell? ⟨b, off + i, none⟩ = some (.int .u8 (nth l i)) ∧ 0 ≤ nth l i ∧ nth l i ≤ 255
theorem BytesAt.ext {w w' : World} {a : Option Addr} {l : List Int} (h : BytesAt w a l) (e : Ext w w') : BytesAt w' a l := by
  obtain ⟨b, off, h1, h2⟩ := h
  refine ⟨b, off, fun h0 => ⟨(h1 h0).1, Nat.lt_of_lt_of_le (h1 h0).2 e.size⟩, fun i hi => ⟨e.cell' (h2 i hi).1 (h1 (by omega)).2, (h2 i hi).2⟩⟩
theorem lt_of_cell {w : World} {b o : Nat} {v : Value} (h : w.cell? ⟨b, o, none⟩ = some v) : b < w.heap.size := by
  apply Decidable.byContradiction
  intro hn
  rw [World.cell?, Array.getElem?_eq_none (by simpa using hn)] at h
  cases h

/-- The slice v reads l, and lies in a block of its own from block B on (or is nil). -/
def OwnI (w : World) (B E : Nat) (v : Value) (l : List Int) : Prop := w.ownsRow B E 1 v l.length (l.map (Value.int .i64))
theorem map_get (l : List Int) (i : Nat) (h : i < l.length) : (l.map (Value.int .i64))[i]? = some (.int .i64 (nth l i)) := by
  rw [List.getElem?_map, List.getElem?_eq_getElem h, nth_getElem l i h]; rfl
theorem OwnI.row {w : World} {B E : Nat} {v : Value} {l : List Int} (h : OwnI w B E v l) (hl : 0 < l.length) :
    ∃ g cap, v = .slice (some ⟨g, 0, none⟩) l.length cap ∧ B ≤ g ∧ g < w.heap.size ∧ (∀ i, i < l.length → w.cell? ⟨g, i, none⟩ = some (.int .i64 (nth l i))) ∧ ∀ i, w.frozen? ⟨g, i, none⟩ = false := by
  have h' := h
  rcases h'.2 with ⟨_, h0⟩ | ⟨g, cap, cur, rfl, hB, hg, _⟩
  · omega
  · refine ⟨g, cap, rfl, hB, (Array.getElem?_eq_some_iff.1 hg).1, fun i hi => ?_, fun i => World.ownsRow.frozenAt h i⟩
    rw [World.ownsRow.cellAt h i (by omega), map_get l i hi]
theorem OwnI.shape {w : World} {B E : Nat} {v : Value} {l : List Int} (h : OwnI w B E v l) : ∃ a cap, v = .slice a l.length cap ∧ IntsAt w a l := by
  by_cases hl : 0 < l.length
  · obtain ⟨g, cap, rfl, _, hg, hc, _⟩ := h.row hl
    exact ⟨_, cap, rfl, g, 0, fun _ => ⟨rfl, hg⟩, fun i hi => by rw [Nat.zero_add]; exact hc i hi⟩
  · rcases h.2 with ⟨rfl, h0⟩ | ⟨g, cap, cur, rfl, _⟩
    · exact ⟨none, 0, by rw [h0], 0, 0, fun h => absurd h hl, fun i hi => absurd hi (by omega)⟩
    · exact ⟨_, cap, rfl, 0, 0, fun h => absurd h hl, fun i hi => absurd hi (by omega)⟩
theorem Ext.grown {w w' : World} (h : Ext w w') (row : Option Nat) : w.grownBy w' row := ⟨h.os, h.tape, h.output, h.size, fun k hk _ => h.block k hk⟩
theorem own_ext {w w' : World} {B E s n : Nat} {v : Value} {xs : List Value} (h : w.ownsRow B E s v n xs) (e : Ext w w') : w'.ownsRow B E s v n xs :=
  World.ownsRow.kept h (e.grown none) (by cases hv : v.ownBlock <;> simp)
theorem own_mono {w : World} {B B' E s n : Nat} {v : Value} {xs : List Value} (h : w.ownsRow B E s v n xs) (hB : B' ≤ B) : w.ownsRow B' E s v n xs :=
  ⟨h.1, h.2.imp id fun ⟨g, cap, cur, h1, h2, h3⟩ => ⟨g, cap, cur, h1, Nat.le_trans hB h2, h3⟩⟩
theorem OwnI.ext {w w' : World} {B E : Nat} {v : Value} {l : List Int} (h : OwnI w B E v l) (e : Ext w w') : OwnI w' B E v l := own_ext h e
theorem OwnI.mono {w : World} {B B' E : Nat} {v : Value} {l : List Int} (h : OwnI w B E v l) (hB : B' ≤ B) : OwnI w B' E v l := own_mono h hB
theorem OwnI.set {w : World} {B E g cap : Nat} {l : List Int} (h : OwnI w B E (.slice (some ⟨g, 0, none⟩) l.length cap) l) (k : Nat) (u : Int) :
    OwnI (w.setCell ⟨g, k, none⟩ (.int .i64 u)) B E (.slice (some ⟨g, 0, none⟩) (l.set k u).length cap) (l.set k u) := by
  have := (World.ownsRow.stored h k (.int .i64 u)).1
  unfold OwnI
  rw [List.map_set, List.length_set]
  exact this
/-- Another row is written: this one stays. -/
theorem own_set_other {w : World} {B E s n : Nat} {v : Value} {xs : List Value} (h : w.ownsRow B E s v n xs) (p : Addr) (u : Value) (hp : v.ownBlock ≠ some p.block) : (w.setCell p u).ownsRow B E s v n xs := by
  refine World.ownsRow.kept h (w' := w.setCell p u) (row := some p.block) ⟨rfl, rfl, rfl, by simp, fun k _ hk => heap_setCell_other w p k u (fun e => hk (by simp [e]))⟩ (.inr hp)
/-- What a call that makes a slice of ints comes to. -/
def RetI (E : Nat) (w : World) (l : List Int) (e : Ending) (w' : World) : Prop := ∃ v, e = .returned v ∧ OwnI w' w.heap.size E v l ∧ Ext w w'

theorem madeCells_int (n : Nat) : (madeCells (Value.int .i64 0).cells (n * 1)).toList = (List.replicate n (0 : Int)).map (Value.int .i64) := by
  simp only [madeCells, Value.cells, Nat.mul_one, List.map_replicate]
  apply List.ext_getElem?
  intro i
  by_cases hi : i < n <;> simp [hi, Nat.mod_one]

theorem own_made {w : World} {B E n : Nat} {v : Value} (h : w.ownsRow B E 1 v n (madeCells #[Value.int .i64 0] n).toList) : OwnI w B E v (List.replicate n 0) := by
  have e : (madeCells #[Value.int .i64 0] n).toList = (List.replicate n (0 : Int)).map (Value.int .i64) := by
    have := madeCells_int n
    rw [Nat.mul_one] at this; exact this
  unfold OwnI
  rw [List.length_replicate, ← e]
  exact h
theorem Ext.of_grown {w w' : World} (h : w.grownBy w' none) : Ext w w' := ⟨h.os, h.tape, h.output, h.size, fun k hk => h.block k hk (by simp)⟩

theorem OwnI.nil (w : World) (B E : Nat) : OwnI w B E (.slice none 0 0) [] := ⟨rfl, .inl ⟨rfl, rfl⟩⟩
theorem OwnI.empty (w : World) (E : Nat) : OwnI (w.alloc (.cells #[] E)) w.heap.size E (.slice (some ⟨w.heap.size, 0, none⟩) 0 0) [] :=
  World.ownsRow_made w #[] 0 (Nat.le_refl _) (by unfold maxLen; omega) rfl
theorem OwnI.grown {w0 w w' : World} {E : Nat} {v : Value} {l : List Int} (h : OwnI w w0.heap.size E v l) (hx : Ext w0 w) (hg : w.grownBy w' v.ownBlock) : Ext w0 w' :=
  Below.grown hx hg hx.size fun k hk => (World.ownsRow.lt h k hk).1
theorem OwnI.ints {w : World} {B E : Nat} {a : Option Addr} {n cap : Nat} {l : List Int} (h : OwnI w B E (.slice a n cap) l) : IntsAt w a l := by
  obtain ⟨a', cap', hv, hi⟩ := h.shape
  obtain ⟨rfl, _, _⟩ : a = a' ∧ n = l.length ∧ cap = cap' := by simpa using hv
  exact hi
theorem OwnI.len {w : World} {B E : Nat} {a : Option Addr} {n cap : Nat} {l : List Int} (h : OwnI w B E (.slice a n cap) l) : n = l.length := by
  obtain ⟨a', cap', hv, hi⟩ := h.shape
  have : a = a' ∧ n = l.length ∧ cap = cap' := by simpa using hv
  exact this.2.1
theorem OwnI.kept {w w' : World} {B E : Nat} {v : Value} {l : List Int} {row : Option Nat} (h : OwnI w B E v l) (hg : w.grownBy w' row) (hne : v.ownBlock = none ∨ v.ownBlock ≠ row) : OwnI w' B E v l :=
  World.ownsRow.kept h hg hne
theorem grown_setCell {w w' : World} {row : Option Nat} (h : w.grownBy w' row) {p : Addr} {u : Value} (hp : row = some p.block) : w.grownBy (w'.setCell p u) row :=
  ⟨h.os, h.tape, h.output, by simpa [World.setCell] using h.size, fun k hk hne => (Below.heap_setCell w' p u k (by rintro rfl; exact hne hp.symm)).trans (h.block k hk hne)⟩
/-- The numbers from k on. -/
def marks (k : Int) (n : Nat) : List Int := (List.range n).map fun (i : Nat) => k + (i : Int)
end Go.Kt
namespace Go.Kt
set_option linter.unusedVariables false

/-- How many expressions a step takes. -/
def tkK (x : Int) : Int := if x = 19 ∨ x = 20 then 2 else if x = 21 then 1 else 0
/-- The step is none, or finds too few. -/
def BadK (x : Int) (m : Nat) : Prop := x < 0 ∨ 21 < x ∨ (m : Int) < tkK x
instance (x : Int) (m : Nat) : Decidable (BadK x m) := by unfold BadK; infer_instance
def mnyK (l : List Int) : Nat → Option Nat
  | 0 => some 0
  | k + 1 => match mnyK l k with
    | none => none
    | some m => if BadK (nth l k) m then none else some (m - (tkK (nth l k)).toNat + 1)
theorem tkK_range (x : Int) : tkK x = 0 ∨ tkK x = 1 ∨ tkK x = 2 := by
  unfold tkK
  split
  · exact .inr (.inr rfl)
  · split
    · exact .inr (.inl rfl)
    · exact .inl rfl
theorem mnyK_bad {l : List Int} {k m : Nat} (h : mnyK l k = some m) (hb : BadK (nth l k) m) : mnyK l (k + 1) = none := by
  simp only [mnyK, h, if_pos hb]
theorem mnyK_good {l : List Int} {k m : Nat} (h : mnyK l k = some m) (hb : ¬ BadK (nth l k) m) : mnyK l (k + 1) = some (m - (tkK (nth l k)).toNat + 1) := by
  simp only [mnyK, h, if_neg hb]
theorem mnyK_none {l : List Int} {k : Nat} (h : mnyK l k = none) : ∀ d, mnyK l (k + d) = none
  | 0 => h
  | d + 1 => by
    have := mnyK_none h d
    rw [← Nat.add_assoc]
    simp only [mnyK, this]
theorem mnyK_le {l : List Int} : ∀ {k m : Nat}, mnyK l k = some m → m ≤ k
  | 0, m, h => by simp [mnyK] at h; omega
  | k + 1, m, h => by
    cases hk : mnyK l k with
    | none => rw [show mnyK l (k + 1) = none by simp only [mnyK, hk]] at h; cases h
    | some q =>
      have hq := mnyK_le hk
      by_cases hb : BadK (nth l k) q
      · rw [mnyK_bad hk hb] at h; cases h
      · rw [mnyK_good hk hb] at h
        have := Option.some.inj h
        omega
/-- An expression is valid. -/
def kvB (l : List Int) : Bool := decide (1 ≤ l.length ∧ l.length ≤ 40) && decide (mnyK l l.length = some 1)
theorem kvB_none {l : List Int} {k : Nat} (hk : k ≤ l.length) (h : mnyK l k = none) : kvB l = false := by
  have := mnyK_none h (l.length - k)
  rw [show k + (l.length - k) = l.length by omega] at this
  simp [kvB, this]
theorem kvB_out {l : List Int} (h : ¬ (1 ≤ l.length ∧ l.length ≤ 40)) : kvB l = false := by
  unfold kvB; rw [decide_eq_false h]; rfl
theorem kvB_end {l : List Int} {m : Nat} (h : 1 ≤ l.length ∧ l.length ≤ 40) (hm : mnyK l l.length = some m) : kvB l = (m == 1) := by
  unfold kvB; rw [decide_eq_true h, hm, Bool.eq_iff_iff]; simp
theorem kvB_len {l : List Int} (h : kvB l = true) : 1 ≤ l.length ∧ l.length ≤ 40 := by
  unfold kvB at h
  simp only [Bool.and_eq_true, decide_eq_true_eq] at h
  exact h.1
theorem kvB_mny {l : List Int} (h : kvB l = true) : mnyK l l.length = some 1 := by
  unfold kvB at h
  simp only [Bool.and_eq_true, decide_eq_true_eq] at h
  exact h.2
theorem kvB_good {l : List Int} (h : kvB l = true) {k m : Nat} (hk : k < l.length) (hm : mnyK l k = some m) : ¬ BadK (nth l k) m := fun hb => by
  rw [kvB_none (k := k + 1) (by omega) (mnyK_bad hm hb)] at h; cases h

/-- Expressions that may be longer than asked. -/
def KvL (l : List Int) : Prop := 1 ≤ l.length ∧ l.length ≤ 4096 ∧ mnyK l l.length = some 1
theorem KvL.of {l : List Int} (h : kvB l = true) : KvL l := ⟨(kvB_len h).1, by have := (kvB_len h).2; omega, kvB_mny h⟩
theorem KvL.good {l : List Int} (h : KvL l) {k m : Nat} (hk : k < l.length) (hm : mnyK l k = some m) : ¬ BadK (nth l k) m := fun hb => by
  have h1 := mnyK_none (mnyK_bad hm hb) (l.length - (k + 1))
  rw [show k + 1 + (l.length - (k + 1)) = l.length by omega, h.2.2] at h1
  cases h1
/-- An expression as a tree. -/
inductive Kt where
  | leaf (s : Int)
  | star (a : Kt)
  | two (s : Int) (a b : Kt)
def Kt.words : Kt → List Int
  | .leaf s => [s]
  | .star a => a.words ++ [21]
  | .two s a b => a.words ++ b.words ++ [s]
def Kt.Good : Kt → Prop
  | .leaf s => 0 ≤ s ∧ s ≤ 18
  | .star a => a.Good
  | .two s a b => (s = 19 ∨ s = 20) ∧ a.Good ∧ b.Good
theorem Kt.words_pos (t : Kt) : 1 ≤ t.words.length := by cases t <;> simp [Kt.words] <;> omega
/-- One step on a stack, its top ahead. -/
def stepK (x : Int) (st : List Kt) : List Kt :=
  if x = 19 ∨ x = 20 then match st with
    | b :: a :: r => .two x a b :: r
    | r => r
  else if x = 21 then match st with
    | a :: r => .star a :: r
    | r => r
  else .leaf x :: st
def runK : List Int → List Kt → List Kt
  | [], st => st
  | x :: xs, st => runK xs (stepK x st)
theorem runK_append : ∀ (xs ys : List Int) (st : List Kt), runK (xs ++ ys) st = runK ys (runK xs st)
  | [], ys, st => rfl
  | x :: xs, ys, st => by simp only [List.cons_append, runK, runK_append xs ys]
theorem runK_words : ∀ (t : Kt), t.Good → ∀ st, runK t.words st = t :: st
  | .leaf s, h, st => by
    have : 0 ≤ s ∧ s ≤ 18 := h
    simp only [Kt.words, runK, stepK, if_neg (show ¬ (s = 19 ∨ s = 20) by omega), if_neg (show ¬ s = 21 by omega)]
  | .star a, h, st => by
    have ha := runK_words a h st
    simp only [Kt.words, runK_append, ha, runK, stepK]
    simp
  | .two s a b, h, st => by
    obtain ⟨hs, h1, h2⟩ := h
    have ha := runK_words a h1 st
    have hb := runK_words b h2 (a :: st)
    simp only [Kt.words, runK_append, ha, hb, runK, stepK, if_pos hs]
/-- The words tell the tree. -/
theorem Kt.words_inj {t u : Kt} (ht : t.Good) (hu : u.Good) (h : t.words = u.words) : t = u := by
  have h1 := runK_words t ht []
  have h2 := runK_words u hu []
  rw [h, h2] at h1
  injection h1 with h1
  exact h1.symm
def allK : List Kt → List Int
  | [] => []
  | t :: ts => t.words ++ allK ts
theorem allK_append : ∀ (xs ys : List Kt), allK (xs ++ ys) = allK xs ++ allK ys
  | [], ys => rfl
  | x :: xs, ys => by simp only [List.cons_append, allK, allK_append xs ys, List.append_assoc]
theorem take_nthK {l : List Int} {k : Nat} (h : k < l.length) : l.take (k + 1) = l.take k ++ [nth l k] := by
  have e : nth l k = l[k] := by unfold nth; rw [List.getD_eq_getElem?_getD, List.getElem?_eq_getElem h]; rfl
  rw [List.take_add_one, List.getElem?_eq_getElem h, e]
  rfl
/-- The stack behind the first k steps. -/
def StkK (l : List Int) (k : Nat) (ts : List Kt) : Prop := (∀ t, t ∈ ts → t.Good) ∧ allK ts = l.take k ∧ mnyK l k = some ts.length
theorem StkK.start (l : List Int) : StkK l 0 [] := ⟨(fun t h => by cases h), rfl, rfl⟩
theorem StkK.push {l : List Int} {k : Nat} {us ts : List Kt} {t : Kt} (h : StkK l k (us ++ ts)) (hk : k < l.length) (hn : ¬ BadK (nth l k) (us ++ ts).length) (hg : (∀ t, t ∈ ts → t.Good) → t.Good) (hw : t.words = allK ts ++ [nth l k])
    (ht : tkK (nth l k) = ts.length) : StkK l (k + 1) (us ++ [t]) := by
  obtain ⟨h1, h2, h3⟩ := h
  refine ⟨fun x hx => ?_, ?_, ?_⟩
  · rcases List.mem_append.1 hx with hx | hx
    · exact h1 x (List.mem_append.2 (.inl hx))
    · simp at hx; subst hx
      exact hg fun t ht => h1 t (List.mem_append.2 (.inr ht))
  · rw [take_nthK hk, ← h2, allK_append, allK_append]
    simp only [allK, List.append_nil, hw, List.append_assoc]
  · rw [mnyK_good h3 hn, ht]
    simp
theorem StkK.leaf {l : List Int} {k : Nat} {ts : List Kt} (h : StkK l k ts) (hk : k < l.length) (hn : ¬ BadK (nth l k) ts.length) (h0 : tkK (nth l k) = 0) : StkK l (k + 1) (ts ++ [.leaf (nth l k)]) := by
  refine StkK.push (ts := []) (by rw [List.append_nil]; exact h) hk (by rw [List.append_nil]; exact hn) (fun _ => ?_) rfl (by rw [h0]; rfl)
  unfold BadK at hn
  unfold tkK at h0
  have a1 : ¬ (nth l k = 19 ∨ nth l k = 20) := fun e => by rw [if_pos e] at h0; cases h0
  rw [if_neg a1] at h0
  have a2 : ¬ nth l k = 21 := fun e => by rw [if_pos e] at h0; cases h0
  show 0 ≤ nth l k ∧ nth l k ≤ 18
  omega
theorem StkK.star {l : List Int} {k : Nat} {us : List Kt} {a : Kt} (h : StkK l k (us ++ [a])) (hk : k < l.length) (hn : ¬ BadK (nth l k) (us ++ [a]).length) (h0 : tkK (nth l k) = 1) : StkK l (k + 1) (us ++ [.star a]) := by
  refine StkK.push h hk hn (fun hg => hg a (by simp)) ?_ (by rw [h0]; rfl)
  have : nth l k = 21 := by
    unfold tkK at h0
    split at h0
    · cases h0
    · split at h0
      · assumption
      · cases h0
  simp [Kt.words, allK, this]
theorem StkK.two {l : List Int} {k : Nat} {us : List Kt} {a b : Kt} (h : StkK l k (us ++ [a, b])) (hk : k < l.length) (hn : ¬ BadK (nth l k) (us ++ [a, b]).length) (h0 : tkK (nth l k) = 2) : StkK l (k + 1) (us ++ [.two (nth l k) a b]) := by
  refine StkK.push h hk hn (fun hg => ⟨?_, hg a (by simp), hg b (by simp)⟩) ?_ (by rw [h0]; rfl)
  · unfold tkK at h0
    split at h0
    · assumption
    · split at h0 <;> cases h0
  · simp [Kt.words, allK]
theorem StkK.done {l : List Int} {t : Kt} (h : StkK l l.length [t]) : t.Good ∧ t.words = l := by
  obtain ⟨h1, h2, h3⟩ := h
  refine ⟨h1 t (by simp), ?_⟩
  simpa [allK] using h2
theorem splitK2 {α : Type} {ts : List α} (h : 2 ≤ ts.length) : ∃ us a b, ts = us ++ [a, b] := by
  refine ⟨ts.take (ts.length - 2), ts[ts.length - 2], ts[ts.length - 1], ?_⟩
  have h1 : ts.drop (ts.length - 2) = [ts[ts.length - 2], ts[ts.length - 1]] := by
    rw [List.drop_eq_getElem_cons (by omega), show ts.length - 2 + 1 = ts.length - 1 by omega, List.drop_eq_getElem_cons (by omega), show ts.length - 1 + 1 = ts.length by omega, List.drop_length]
  rw [← h1, List.take_append_drop]
theorem splitK1 {α : Type} {ts : List α} (h : 1 ≤ ts.length) : ∃ us a, ts = us ++ [a] := by
  refine ⟨ts.take (ts.length - 1), ts[ts.length - 1], ?_⟩
  have h1 : ts.drop (ts.length - 1) = [ts[ts.length - 1]] := by
    rw [List.drop_eq_getElem_cons (by omega), show ts.length - 1 + 1 = ts.length by omega, List.drop_length]
  rw [← h1, List.take_append_drop]
theorem not_bad_two {x : Int} {m : Nat} (h : ¬ BadK x m) (h0 : tkK x = 2) : 2 ≤ m := by
  unfold BadK at h; omega
theorem not_bad_one {x : Int} {m : Nat} (h : ¬ BadK x m) (h0 : tkK x = 1) : 1 ≤ m := by
  unfold BadK at h; omega
/-- A valid expression has a tree. -/
theorem kvB_tree {l : List Int} (h : kvB l = true) : ∃ t : Kt, t.Good ∧ t.words = l := by
  have all : ∀ k, k ≤ l.length → ∃ ts, StkK l k ts := by
    intro k
    induction k with
    | zero => exact fun _ => ⟨[], StkK.start l⟩
    | succ k ih =>
      intro hk
      obtain ⟨ts, hs⟩ := ih (by omega)
      have hn := kvB_good h (show k < l.length by omega) hs.2.2
      rcases tkK_range (nth l k) with h0 | h0 | h0
      · exact ⟨_, hs.leaf (by omega) hn h0⟩
      · obtain ⟨us, a, rfl⟩ := splitK1 (not_bad_one hn h0)
        exact ⟨_, hs.star (by omega) hn h0⟩
      · obtain ⟨us, a, b, rfl⟩ := splitK2 (not_bad_two hn h0)
        exact ⟨_, hs.two (by omega) hn h0⟩
  obtain ⟨ts, hs⟩ := all l.length (Nat.le_refl _)
  have h1 := hs.2.2
  rw [kvB_mny h] at h1
  have h2 : ts.length = 1 := (Option.some.inj h1).symm
  obtain ⟨us, a, rfl⟩ := splitK1 (show 1 ≤ ts.length by omega)
  obtain rfl : us = [] := List.eq_nil_of_length_eq_zero (by simp only [List.length_append, List.length_cons, List.length_nil] at h2; omega)
  exact ⟨a, hs.done⟩

/-- What is wanted behind the last j steps: reading backwards, from need on. -/
def needK (l : List Int) (n : Nat) (c : Int) : Nat → Int
  | 0 => c
  | j + 1 => needK l n c j - 1 + tkK (nth l (n - 1 - j))
theorem needK_add (l : List Int) (n : Nat) (c : Int) (i : Nat) : ∀ j, needK l n c (i + j) = needK l (n - i) (needK l n c i) j
  | 0 => rfl
  | j + 1 => by
    rw [← Nat.add_assoc]
    simp only [needK, needK_add l n c i j]
    rw [show n - 1 - (i + j) = n - i - 1 - j by omega]
/-- From a place on stand these words. -/
def SegK (l : List Int) (o : Nat) (ws : List Int) : Prop := ∀ i, i < ws.length → nth l (o + i) = nth ws i
theorem nth_appl {a b : List Int} {i : Nat} (h : i < a.length) : nth (a ++ b) i = nth a i := by
  unfold nth; rw [List.getD_eq_getElem?_getD, List.getD_eq_getElem?_getD, List.getElem?_append_left h]
theorem nth_appr {a b : List Int} {i : Nat} : nth (a ++ b) (a.length + i) = nth b i := by
  unfold nth; rw [List.getD_eq_getElem?_getD, List.getD_eq_getElem?_getD, List.getElem?_append_right (by omega), Nat.add_sub_cancel_left]
theorem SegK.left {l : List Int} {o : Nat} {xs ys : List Int} (h : SegK l o (xs ++ ys)) : SegK l o xs := fun i hi => by
  rw [h i (by rw [List.length_append]; omega), nth_appl hi]
theorem SegK.right {l : List Int} {o : Nat} {xs ys : List Int} (h : SegK l o (xs ++ ys)) : SegK l (o + xs.length) ys := fun i hi => by
  rw [Nat.add_assoc, h (xs.length + i) (by rw [List.length_append]; omega), nth_appr]
theorem needK_seg (l : List Int) : ∀ (t : Kt), t.Good → ∀ (o : Nat), SegK l o t.words → ∀ c : Int, (∀ j, j < t.words.length → c ≤ needK l (o + t.words.length) c j) ∧ needK l (o + t.words.length) c t.words.length = c - 1
  | .leaf s, hg, o, hs, c => by
    have hg : 0 ≤ s ∧ s ≤ 18 := hg
    have h0 : nth l o = s := hs 0 (by simp [Kt.words])
    have ht : tkK s = 0 := by unfold tkK; rw [if_neg (by omega), if_neg (by omega)]
    simp only [Kt.words, List.length_cons, List.length_nil]
    refine ⟨fun j hj => ?_, ?_⟩
    · obtain rfl : j = 0 := by omega
      exact Int.le_refl _
    · simp only [needK, Nat.zero_add, Nat.add_sub_cancel, Nat.sub_zero, h0, ht]
      omega
  | .star a, hg, o, hs, c => by
    have ha := needK_seg l a hg o (SegK.left hs) c
    have hl : nth l (o + a.words.length) = 21 := SegK.right hs 0 (by simp)
    have e : (Kt.star a).words.length = 1 + a.words.length := by simp [Kt.words]; omega
    have h1 : needK l (o + (1 + a.words.length)) c 1 = c := by
      simp only [needK]
      rw [show o + (1 + a.words.length) - 1 - 0 = o + a.words.length by omega, hl]
      show c - 1 + 1 = c
      omega
    rw [e]
    refine ⟨fun j hj => ?_, ?_⟩
    · cases j with
      | zero => exact Int.le_refl _
      | succ j =>
        rw [Nat.add_comm j 1, needK_add, h1, show o + (1 + a.words.length) - 1 = o + a.words.length by omega]
        exact ha.1 j (by omega)
    · rw [needK_add, h1, show o + (1 + a.words.length) - 1 = o + a.words.length by omega]
      exact ha.2
  | .two s a b, hg, o, hs, c => by
    obtain ⟨h2, ga, gb⟩ := hg
    have hab : SegK l o (a.words ++ b.words) := SegK.left hs
    have ha := needK_seg l a ga o (SegK.left hab) c
    have hb := needK_seg l b gb (o + a.words.length) (SegK.right hab) (c + 1)
    have hl : nth l (o + (a.words ++ b.words).length) = s := SegK.right hs 0 (by simp)
    rw [List.length_append] at hl
    have e : (Kt.two s a b).words.length = 1 + (b.words.length + a.words.length) := by simp [Kt.words]; omega
    have h1 : needK l (o + (1 + (b.words.length + a.words.length))) c 1 = c + 1 := by
      simp only [needK]
      rw [show o + (1 + (b.words.length + a.words.length)) - 1 - 0 = o + (a.words.length + b.words.length) by omega, hl]
      have : tkK s = 2 := by unfold tkK; rw [if_pos h2]
      omega
    have h3 : o + (1 + (b.words.length + a.words.length)) - 1 = o + a.words.length + b.words.length := by omega
    have h4 : o + a.words.length + b.words.length - b.words.length = o + a.words.length := by omega
    rw [e]
    refine ⟨fun j hj => ?_, ?_⟩
    · cases j with
      | zero => exact Int.le_refl _
      | succ j =>
        rw [Nat.add_comm j 1, needK_add, h1, h3]
        by_cases hj2 : j < b.words.length
        · have := hb.1 j hj2
          omega
        · obtain ⟨i, rfl⟩ : ∃ i, j = b.words.length + i := ⟨j - b.words.length, by omega⟩
          rw [needK_add, hb.2, h4, show c + 1 - 1 = c by omega]
          exact ha.1 i (by omega)
    · rw [needK_add, h1, h3, needK_add, hb.2, h4, show c + 1 - 1 = c by omega]
      exact ha.2
theorem needK_le (l : List Int) (n : Nat) (c : Int) (hc : 0 ≤ c) : ∀ j : Nat, -(j : Int) ≤ needK l n c j ∧ needK l n c j ≤ c + j
  | 0 => ⟨by simp only [needK]; omega, by simp only [needK]; omega⟩
  | j + 1 => by
    have := needK_le l n c hc j
    have h2 := tkK_range (nth l (n - 1 - j))
    simp only [needK]
    omega
end Go.Kt
namespace Go.Kt
set_option linter.unusedVariables false

/-- The test for the atoms at which an expression may end. -/
def Kt.ends : Kt → Nat
  | .leaf x => if x ≤ 15 then x.toNat else 0
  | .star _ => 15
  | .two s a b => if s = 19 then a.ends &&& b.ends else a.ends ||| b.ends
theorem Kt.ends_lt : ∀ t : Kt, t.ends < 16
  | .leaf x => by
    unfold Kt.ends
    split <;> omega
  | .star _ => by show 15 < 16; decide
  | .two s a b => by
    unfold Kt.ends
    split
    · exact Nat.lt_of_le_of_lt Nat.and_le_left a.ends_lt
    · exact Nat.or_lt_two_pow (n := 4) a.ends_lt b.ends_lt
/-- An expression behind another one. -/
def behindK (p t : Kt) : Kt := if p.words = [15] then t else .two 19 p t
/-- What is left of an expression behind an atom and an action, as it comes. -/
def Kt.part (at_ : Nat) (act : Int) : Kt → List Kt
  | .leaf x => if x = act then [.leaf 15] else []
  | .star a => (a.part at_ act).map (behindK · (.star a))
  | .two s a b => if s = 19 then (a.part at_ act).map (behindK · b) ++ (if a.ends.testBit at_ then b.part at_ act else []) else a.part at_ act ++ b.part at_ act
/-- All that can be left. -/
def Kt.pd : Kt → List Kt
  | .leaf x => if x ≤ 15 then [] else [.leaf 15]
  | .star a => a.pd.map (behindK · (.star a))
  | .two s a b => if s = 19 then a.pd.map (behindK · b) ++ b.pd else a.pd ++ b.pd
theorem behindK_good {p t : Kt} (hp : p.Good) (ht : t.Good) : (behindK p t).Good := by
  unfold behindK
  split
  · exact ht
  · exact ⟨.inl rfl, hp, ht⟩
theorem pd_good : ∀ (t : Kt), t.Good → ∀ p, p ∈ t.pd → p.Good
  | .leaf x, h, p, hp => by
    unfold Kt.pd at hp
    split at hp
    · cases hp
    · simp at hp; subst hp; exact ⟨by decide, by decide⟩
  | .star a, h, p, hp => by
    unfold Kt.pd at hp
    obtain ⟨q, hq, rfl⟩ := List.mem_map.1 hp
    exact behindK_good (pd_good a h q hq) h
  | .two s a b, h, p, hp => by
    unfold Kt.pd at hp
    split at hp
    · rcases List.mem_append.1 hp with hp | hp
      · obtain ⟨q, hq, rfl⟩ := List.mem_map.1 hp
        exact behindK_good (pd_good a h.2.1 q hq) h.2.2
      · exact pd_good b h.2.2 p hp
    · rcases List.mem_append.1 hp with hp | hp
      · exact pd_good a h.2.1 p hp
      · exact pd_good b h.2.2 p hp
theorem part_pd (at_ : Nat) (act : Int) (ha : 16 ≤ act) : ∀ (t : Kt) (p : Kt), p ∈ t.part at_ act → p ∈ t.pd
  | .leaf x, p, hp => by
    unfold Kt.part at hp
    split at hp
    · rename_i h
      unfold Kt.pd
      rw [if_neg (by omega)]; exact hp
    · cases hp
  | .star a, p, hp => by
    unfold Kt.part at hp
    obtain ⟨q, hq, rfl⟩ := List.mem_map.1 hp
    exact List.mem_map.2 ⟨q, part_pd at_ act ha a q hq, rfl⟩
  | .two s a b, p, hp => by
    unfold Kt.part at hp
    unfold Kt.pd
    split at hp
    · rename_i h
      rw [if_pos h]
      rcases List.mem_append.1 hp with hp | hp
      · obtain ⟨q, hq, rfl⟩ := List.mem_map.1 hp
        exact List.mem_append.2 (.inl (List.mem_map.2 ⟨q, part_pd at_ act ha a q hq, rfl⟩))
      · split at hp
        · exact List.mem_append.2 (.inr (part_pd at_ act ha b p hp))
        · cases hp
    · rename_i h
      rw [if_neg h]
      rcases List.mem_append.1 hp with hp | hp
      · exact List.mem_append.2 (.inl (part_pd at_ act ha a p hp))
      · exact List.mem_append.2 (.inr (part_pd at_ act ha b p hp))
/-- What is left of what is behind another one. -/
theorem part_behind {at_ : Nat} {act : Int} {q t : Kt} {p : Kt} (hp : p ∈ (behindK q t).part at_ act) : (∃ r, r ∈ q.part at_ act ∧ p = behindK r t) ∨ p ∈ t.part at_ act := by
  unfold behindK at hp
  split at hp
  · exact .inr hp
  · simp only [Kt.part, if_true] at hp
    rcases List.mem_append.1 hp with hp | hp
    · obtain ⟨r, hr, rfl⟩ := List.mem_map.1 hp
      exact .inl ⟨r, hr, rfl⟩
    · split at hp
      · exact .inr hp
      · cases hp
/-- What is left of what can be left can be left. -/
theorem pd_closed (at_ : Nat) (act : Int) (ha : 16 ≤ act) : ∀ (t : Kt) (q : Kt), q ∈ t.pd → ∀ p, p ∈ q.part at_ act → p ∈ t.pd
  | .leaf x, q, hq, p, hp => by
    unfold Kt.pd at hq
    split at hq
    · cases hq
    · simp at hq; subst hq
      simp only [Kt.part] at hp
      rw [if_neg (by omega)] at hp; cases hp
  | .star a, q, hq, p, hp => by
    unfold Kt.pd at hq
    obtain ⟨r, hr, rfl⟩ := List.mem_map.1 hq
    rcases part_behind hp with ⟨r', hr', rfl⟩ | hp
    · exact List.mem_map.2 ⟨r', pd_closed at_ act ha a r hr r' hr', rfl⟩
    · exact part_pd at_ act ha _ p hp
  | .two s a b, q, hq, p, hp => by
    unfold Kt.pd at hq ⊢
    split at hq
    · rename_i h
      rw [if_pos h]
      rcases List.mem_append.1 hq with hq | hq
      · obtain ⟨r, hr, rfl⟩ := List.mem_map.1 hq
        rcases part_behind hp with ⟨r', hr', rfl⟩ | hp
        · exact List.mem_append.2 (.inl (List.mem_map.2 ⟨r', pd_closed at_ act ha a r hr r' hr', rfl⟩))
        · exact List.mem_append.2 (.inr (part_pd at_ act ha b p hp))
      · exact List.mem_append.2 (.inr (pd_closed at_ act ha b q hq p hp))
    · rename_i h
      rw [if_neg h]
      rcases List.mem_append.1 hq with hq | hq
      · exact List.mem_append.2 (.inl (pd_closed at_ act ha a q hq p hp))
      · exact List.mem_append.2 (.inr (pd_closed at_ act ha b q hq p hp))
/-- How many actions an expression has. -/
def Kt.acts : Kt → Nat
  | .leaf x => if x ≤ 15 then 0 else 1
  | .star a => a.acts
  | .two _ a b => a.acts + b.acts
theorem pd_length : ∀ t : Kt, t.pd.length = t.acts
  | .leaf x => by unfold Kt.pd Kt.acts; split <;> rfl
  | .star a => by unfold Kt.pd Kt.acts; rw [List.length_map, pd_length a]
  | .two s a b => by
    unfold Kt.pd Kt.acts
    split
    · rw [List.length_append, List.length_map, pd_length a, pd_length b]
    · rw [List.length_append, pd_length a, pd_length b]
theorem acts_le : ∀ t : Kt, t.acts ≤ t.words.length
  | .leaf x => by unfold Kt.acts; split <;> simp [Kt.words]
  | .star a => by have := acts_le a; simp [Kt.words, Kt.acts]; omega
  | .two s a b => by have := acts_le a; have := acts_le b; simp [Kt.words, Kt.acts]; omega
theorem part_length (at_ : Nat) (act : Int) : ∀ t : Kt, (t.part at_ act).length ≤ t.words.length
  | .leaf x => by unfold Kt.part; split <;> simp [Kt.words]
  | .star a => by have := part_length at_ act a; simp [Kt.words, Kt.part]; omega
  | .two s a b => by
    have := part_length at_ act a
    have := part_length at_ act b
    unfold Kt.part
    split
    · split
      · simp [Kt.words]; omega
      · simp [Kt.words]; omega
    · simp [Kt.words]; omega
/-- How long what is left can be. -/
def Kt.bnd : Kt → Nat
  | .leaf _ => 1
  | .star a => a.bnd + a.words.length + 2
  | .two s a b => if s = 19 then max (a.bnd + b.words.length + 1) b.bnd else max a.bnd b.bnd
theorem bnd_le : ∀ t : Kt, t.bnd ≤ t.words.length * (t.words.length + 1)
  | .leaf _ => by simp [Kt.bnd, Kt.words]
  | .star a => by
    have h := bnd_le a
    have e : (Kt.star a).words.length = a.words.length + 1 := by simp [Kt.words]
    rw [e]
    unfold Kt.bnd
    generalize a.words.length = n at *
    have : (n + 1) * (n + 1 + 1) = n * (n + 1) + 2 * n + 2 := by
      have e1 : (n + 1) * (n + 1 + 1) = (n + 1) * (n + 1) + (n + 1) := Nat.mul_succ _ _
      have e2 : (n + 1) * (n + 1) = n * (n + 1) + (n + 1) := Nat.succ_mul _ _
      omega
    generalize n * (n + 1) = A at *
    generalize (n + 1) * (n + 1 + 1) = C at *
    omega
  | .two s a b => by
    have h1 := bnd_le a
    have h2 := bnd_le b
    have e : (Kt.two s a b).words.length = a.words.length + b.words.length + 1 := by simp [Kt.words]; omega
    rw [e]
    unfold Kt.bnd
    generalize a.words.length = n at *
    generalize b.words.length = m at *
    have k1 : n * (n + 1) + m + 1 ≤ (n + m + 1) * (n + m + 1 + 1) := by
      have : n * (n + 1) ≤ (n + m + 1) * (n + m + 1) := Nat.mul_le_mul (by omega) (by omega)
      have e2 : (n + m + 1) * (n + m + 1 + 1) = (n + m + 1) * (n + m + 1) + (n + m + 1) := Nat.mul_succ _ _
      omega
    have k2 : m * (m + 1) ≤ (n + m + 1) * (n + m + 1 + 1) := Nat.mul_le_mul (by omega) (by omega)
    have k3 : n * (n + 1) ≤ (n + m + 1) * (n + m + 1 + 1) := Nat.mul_le_mul (by omega) (by omega)
    generalize n * (n + 1) = A at *
    generalize m * (m + 1) = C at *
    generalize (n + m + 1) * (n + m + 1 + 1) = D at *
    split <;> omega
theorem bnd_behind {p t : Kt} {k k' : Nat} (hp : p.bnd ≤ k) (hw : p.words.length ≤ k) (h1 : k + t.words.length + 1 ≤ k') (h2 : t.bnd ≤ k') (h3 : t.words.length ≤ k') : (behindK p t).bnd ≤ k' ∧ (behindK p t).words.length ≤ k' := by
  unfold behindK
  split
  · exact ⟨h2, h3⟩
  · constructor
    · unfold Kt.bnd; rw [if_pos rfl]; omega
    · simp [Kt.words]; omega
theorem pd_bnd : ∀ (t : Kt) (p : Kt), p ∈ t.pd → p.bnd ≤ t.bnd ∧ p.words.length ≤ t.bnd
  | .leaf x, p, hp => by
    unfold Kt.pd at hp
    split at hp
    · cases hp
    · simp at hp; subst hp; exact ⟨Nat.le_refl _, Nat.le_refl _⟩
  | .star a, p, hp => by
    unfold Kt.pd at hp
    obtain ⟨q, hq, rfl⟩ := List.mem_map.1 hp
    have h := pd_bnd a q hq
    have e : (Kt.star a).words.length = a.words.length + 1 := by simp [Kt.words]
    refine bnd_behind h.1 h.2 ?_ (Nat.le_refl _) ?_
    · rw [e]; show a.bnd + (a.words.length + 1) + 1 ≤ a.bnd + a.words.length + 2; omega
    · rw [e]; show a.words.length + 1 ≤ a.bnd + a.words.length + 2; omega
  | .two s a b, p, hp => by
    unfold Kt.pd at hp
    split at hp
    · rename_i h
      have e : (Kt.two s a b).bnd = max (a.bnd + b.words.length + 1) b.bnd := by simp [Kt.bnd, h]
      rcases List.mem_append.1 hp with hp | hp
      · obtain ⟨q, hq, rfl⟩ := List.mem_map.1 hp
        have h := pd_bnd a q hq
        exact bnd_behind h.1 h.2 (by rw [e]; omega) (by rw [e]; omega) (by rw [e]; omega)
      · have h := pd_bnd b p hp
        rw [e]; omega
    · rename_i h
      have e : (Kt.two s a b).bnd = max a.bnd b.bnd := by simp [Kt.bnd, h]
      rw [e]
      rcases List.mem_append.1 hp with hp | hp
      · have h := pd_bnd a p hp; omega
      · have h := pd_bnd b p hp; omega
end Go.Kt
namespace Go.Kt
set_option linter.unusedVariables false

/-- The order of lists of numbers. -/
def ltL : List Int → List Int → Bool
  | _, [] => false
  | [], _ :: _ => true
  | a :: as, b :: bs => if a < b then true else if b < a then false else ltL as bs
theorem ltL_irr : ∀ x, ltL x x = false
  | [] => rfl
  | a :: as => by simp only [ltL]; rw [if_neg (by omega), if_neg (by omega)]; exact ltL_irr as
theorem ltL_trans : ∀ {x y z : List Int}, ltL x y = true → ltL y z = true → ltL x z = true
  | _, [], _, h, _ => by unfold ltL at h; cases h
  | _, _ :: _, [], _, h => by unfold ltL at h; cases h
  | [], _ :: _, _ :: _, _, _ => rfl
  | a :: as, b :: bs, c :: cs, h1, h2 => by
    simp only [ltL] at h1 h2 ⊢
    split at h1
    · split at h2
      · rw [if_pos (by omega)]
      · split at h2
        · cases h2
        · rw [if_pos (by omega)]
    · split at h1
      · cases h1
      · split at h2
        · rw [if_pos (by omega)]
        · split at h2
          · cases h2
          · rw [if_neg (by omega), if_neg (by omega)]
            exact ltL_trans h1 h2
theorem ltL_tri : ∀ {x y : List Int}, ltL x y = false → ltL y x = false → x = y
  | [], [], _, _ => rfl
  | [], _ :: _, h, _ => by unfold ltL at h; cases h
  | _ :: _, [], _, h => by unfold ltL at h; cases h
  | a :: as, b :: bs, h1, h2 => by
    simp only [ltL] at h1 h2
    split at h1
    · cases h1
    · split at h1
      · rw [if_pos (by assumption)] at h2; cases h2
      · rw [if_neg (by assumption), if_neg (by assumption)] at h2
        have e : a = b := by omega
        rw [e, ltL_tri h1 h2]
theorem ltL_asymm {x y : List Int} (h : ltL x y = true) : ltL y x = false := by
  cases h2 : ltL y x
  · rfl
  · have := ltL_trans h h2
    rw [ltL_irr] at this; cases this
/-- In order, each once. -/
def Asc (L : List (List Int)) : Prop := L.Pairwise (fun x y => ltL x y = true)
theorem asc_unique : ∀ {A B : List (List Int)}, Asc A → Asc B → (∀ x, x ∈ A ↔ x ∈ B) → A = B
  | [], [], _, _, _ => rfl
  | [], b :: B, _, _, h => by have := (h b).2 (by simp); cases this
  | a :: A, [], _, _, h => by have := (h a).1 (by simp); cases this
  | a :: A, b :: B, hA, hB, h => by
    have hA' := List.pairwise_cons.1 hA
    have hB' := List.pairwise_cons.1 hB
    have e : a = b := by
      rcases List.mem_cons.1 ((h a).1 (by simp)) with e | e
      · exact e
      · rcases List.mem_cons.1 ((h b).2 (by simp)) with e' | e'
        · exact e'.symm
        · have h1 := hB'.1 a e
          have h2 := hA'.1 b e'
          rw [ltL_asymm h1] at h2; cases h2
    subst e
    rw [asc_unique hA'.2 hB'.2 fun x => ?_]
    constructor
    · intro hx
      rcases List.mem_cons.1 ((h x).1 (List.mem_cons_of_mem _ hx)) with e | e
      · subst e
        have := hA'.1 x hx
        rw [ltL_irr] at this; cases this
      · exact e
    · intro hx
      rcases List.mem_cons.1 ((h x).2 (List.mem_cons_of_mem _ hx)) with e | e
      · subst e
        have := hB'.1 x hx
        rw [ltL_irr] at this; cases this
      · exact e
/-- A list in order with one more in its place. -/
def insL (x : List Int) : List (List Int) → List (List Int)
  | [] => [x]
  | y :: L => if ltL y x then y :: insL x L else if x = y then y :: L else x :: y :: L
theorem mem_insL (x z : List Int) : ∀ L, z ∈ insL x L ↔ z = x ∨ z ∈ L
  | [] => by simp [insL]
  | y :: L => by
    unfold insL
    split
    · rw [List.mem_cons, mem_insL x z L, List.mem_cons]
      constructor
      · rintro (h | h | h)
        · exact .inr (.inl h)
        · exact .inl h
        · exact .inr (.inr h)
      · rintro (h | h | h)
        · exact .inr (.inl h)
        · exact .inl h
        · exact .inr (.inr h)
    · split
      · rename_i h; subst h
        simp
      · simp
theorem asc_insL (x : List Int) : ∀ L, Asc L → Asc (insL x L)
  | [], _ => by simp [insL, Asc]
  | y :: L, h => by
    have h' := List.pairwise_cons.1 h
    unfold insL
    split
    · rename_i hy
      refine List.pairwise_cons.2 ⟨fun z hz => ?_, asc_insL x L h'.2⟩
      rcases (mem_insL x z L).1 hz with rfl | hz
      · exact hy
      · exact h'.1 z hz
    · rename_i hy
      split
      · exact h
      · rename_i hne
        have hxy : ltL x y = true := by
          cases hx : ltL x y
          · exact absurd (ltL_tri hx (by simpa using hy)) hne
          · rfl
        refine List.pairwise_cons.2 ⟨fun z hz => ?_, h⟩
        rcases List.mem_cons.1 hz with rfl | hz
        · exact hxy
        · exact ltL_trans hxy (h'.1 z hz)
theorem length_insL (x : List Int) : ∀ L, (insL x L).length ≤ L.length + 1
  | [] => by simp [insL]
  | y :: L => by
    have := length_insL x L
    unfold insL
    split
    · simp only [List.length_cons]; omega
    · split <;> simp
/-- A list in order, each once. -/
def ordL (L : List (List Int)) : List (List Int) := L.foldr insL []
theorem mem_ordL (z : List Int) : ∀ L, z ∈ ordL L ↔ z ∈ L
  | [] => Iff.rfl
  | x :: L => by
    show z ∈ insL x (ordL L) ↔ _
    rw [mem_insL, mem_ordL z L, List.mem_cons]
theorem asc_ordL : ∀ L, Asc (ordL L)
  | [] => List.Pairwise.nil
  | x :: L => asc_insL x _ (asc_ordL L)
theorem length_ordL : ∀ L, (ordL L).length ≤ L.length
  | [] => Nat.le_refl _
  | x :: L => by
    have h1 := length_insL x (ordL L)
    have h2 := length_ordL L
    show (insL x (ordL L)).length ≤ _
    simp only [List.length_cons]; omega
theorem ordL_unique {A L : List (List Int)} (hA : Asc A) (h : ∀ x, x ∈ A ↔ x ∈ L) : A = ordL L := asc_unique hA (asc_ordL L) fun x => (h x).trans (mem_ordL x L).symm
theorem ordL_congr {A L : List (List Int)} (h : ∀ x, x ∈ A ↔ x ∈ L) : ordL A = ordL L := ordL_unique (asc_ordL A) fun x => (mem_ordL x A).trans (h x)
/-- Lists in order by another way: neighbours that are not out of order, equal neighbours dropped. -/
def dedup : List (List Int) → List (List Int)
  | [] => []
  | [x] => [x]
  | x :: y :: L => if x = y then dedup (y :: L) else x :: dedup (y :: L)
theorem mem_dedup (z : List Int) : ∀ L, z ∈ dedup L ↔ z ∈ L
  | [] => Iff.rfl
  | [x] => Iff.rfl
  | x :: y :: L => by
    have ih := mem_dedup z (y :: L)
    unfold dedup
    split
    · rename_i h; subst h
      rw [ih]; simp
    · rw [List.mem_cons, ih, List.mem_cons (a := z) (b := x)]
theorem asc_dedup : ∀ L : List (List Int), L.Pairwise (fun x y => ltL y x = false) → Asc (dedup L)
  | [], _ => List.Pairwise.nil
  | [x], _ => by simp [dedup, Asc]
  | x :: y :: L, h => by
    have h' := List.pairwise_cons.1 h
    have ih := asc_dedup (y :: L) h'.2
    unfold dedup
    split
    · exact ih
    · rename_i hne
      refine List.pairwise_cons.2 ⟨fun z hz => ?_, ih⟩
      have hz' := (mem_dedup z (y :: L)).1 hz
      have hxy : ltL x y = true := by
        cases hc : ltL x y
        · exact absurd (ltL_tri hc (h'.1 y (by simp))) hne
        · rfl
      rcases List.mem_cons.1 hz' with rfl | hz'
      · exact hxy
      · have h2 := (List.pairwise_cons.1 h'.2).1 z hz'
        cases hc : ltL y z
        · rw [← ltL_tri hc h2]; exact hxy
        · exact ltL_trans hxy hc
theorem dedup_eq {A L : List (List Int)} (hs : A.Pairwise (fun x y => ltL y x = false)) (h : ∀ x, x ∈ A ↔ x ∈ L) : dedup A = ordL L :=
  ordL_unique (asc_dedup A hs) fun x => (mem_dedup x A).trans (h x)
/-- An expression behind another one, as lists. -/
def behindL (p t : List Int) : List Int := if p = [15] then t else p ++ t ++ [19]
theorem behind_words (p t : Kt) : (behindK p t).words = behindL p.words t.words := by
  unfold behindK behindL
  split
  · rfl
  · rfl
/-- What is left of an expression. -/
def partsL (at_ : Nat) (act : Int) (t : Kt) : List (List Int) := ordL ((t.part at_ act).map Kt.words)
theorem mem_partsL {at_ : Nat} {act : Int} {t : Kt} {x : List Int} : x ∈ partsL at_ act t ↔ ∃ p, p ∈ t.part at_ act ∧ p.words = x := by
  unfold partsL; rw [mem_ordL, List.mem_map]
theorem partsL_leaf (at_ : Nat) (act x : Int) (a : Nat) : partsL a act (.leaf x) = if x = act then [[15]] else [] := by
  unfold partsL Kt.part
  split <;> rfl
theorem partsL_plus (at_ : Nat) (act : Int) (a b : Kt) : partsL at_ act (.two 20 a b) = ordL (partsL at_ act a ++ partsL at_ act b) := by
  unfold partsL
  refine ordL_congr fun x => ?_
  rw [List.mem_append, mem_ordL, mem_ordL, Kt.part, if_neg (by decide), List.map_append, List.mem_append]
theorem partsL_star (at_ : Nat) (act : Int) (a : Kt) : partsL at_ act (.star a) = ordL ((partsL at_ act a).map (behindL · (Kt.star a).words)) := by
  show ordL _ = _
  refine ordL_congr fun x => ?_
  rw [Kt.part, List.map_map, List.mem_map, List.mem_map]
  constructor
  · rintro ⟨p, hp, rfl⟩
    exact ⟨p.words, mem_partsL.2 ⟨p, hp, rfl⟩, (behind_words p _).symm⟩
  · rintro ⟨y, hy, rfl⟩
    obtain ⟨p, hp, rfl⟩ := mem_partsL.1 hy
    exact ⟨p, hp, behind_words p _⟩
theorem partsL_then (at_ : Nat) (act : Int) (a b : Kt) : partsL at_ act (.two 19 a b) = ordL ((partsL at_ act a).map (behindL · b.words) ++ if a.ends.testBit at_ then partsL at_ act b else []) := by
  show ordL _ = _
  refine ordL_congr fun x => ?_
  rw [Kt.part, if_pos rfl, List.map_append, List.mem_append, List.mem_append]
  have h1 : x ∈ ((a.part at_ act).map (behindK · b)).map Kt.words ↔ x ∈ (partsL at_ act a).map (behindL · b.words) := by
    rw [List.map_map, List.mem_map, List.mem_map]
    constructor
    · rintro ⟨p, hp, rfl⟩
      exact ⟨p.words, mem_partsL.2 ⟨p, hp, rfl⟩, (behind_words p _).symm⟩
    · rintro ⟨y, hy, rfl⟩
      obtain ⟨p, hp, rfl⟩ := mem_partsL.1 hy
      exact ⟨p, hp, behind_words p _⟩
  have h2 : x ∈ (if a.ends.testBit at_ then b.part at_ act else []).map Kt.words ↔ x ∈ (if a.ends.testBit at_ then partsL at_ act b else []) := by
    split
    · rw [List.mem_map, mem_partsL]
    · exact Iff.rfl
  rw [h1, h2]
theorem partsL_len (at_ : Nat) (act : Int) (t : Kt) : (partsL at_ act t).length ≤ t.words.length := by
  have h1 := length_ordL ((t.part at_ act).map Kt.words)
  have h2 := part_length at_ act t
  rw [List.length_map] at h1
  unfold partsL; omega
theorem asc_partsL (at_ : Nat) (act : Int) (t : Kt) : Asc (partsL at_ act t) := asc_ordL _
end Go.Kt
namespace Go.Kt
set_option linter.unusedVariables false
open Go.RowKit

/-- The i-th set of a row. -/
def natAt (l : List Int) (i : Nat) : Nat := (nth l i).toNat
/-- All are sets (of at most 31 states). -/
def Sets (l : List Int) : Prop := ∀ i, i < l.length → 0 ≤ nth l i ∧ nth l i < 4294967296
theorem Sets.eq {l : List Int} (h : Sets l) (i : Nat) (hi : i < l.length) : nth l i = ((natAt l i : Nat) : Int) := by
  have := h i hi
  unfold natAt
  omega
theorem Sets.lt {l : List Int} (h : Sets l) (i : Nat) (hi : i < l.length) : natAt l i < 4294967296 := by
  have := h i hi
  unfold natAt
  omega
theorem and_or_add (a b : Nat) : a + b = (a ||| b) + (a &&& b) := by
  induction a using Nat.strongRecOn generalizing b with
  | ind a ih =>
    by_cases h0 : a = 0
    · subst h0; simp
    · have h1 := ih (a / 2) (by omega) (b / 2)
      have ho := Nat.div_add_mod (a ||| b) 2
      have ha := Nat.div_add_mod (a &&& b) 2
      rw [Nat.or_div_two] at ho
      rw [Nat.and_div_two] at ha
      have e1 := Nat.or_mod_two_eq_one (a := a) (b := b)
      have e2 := Nat.and_mod_two_eq_one (a := a) (b := b)
      omega
/-- One or the other; both (behind names that the walk does not open). -/
def orN (a b : Nat) : Nat := a ||| b
def andN (a b : Nat) : Nat := a &&& b
theorem i64_orN (a b : Nat) (ha : a < 4294967296) (hb : b < 4294967296) : bits .or .i64 (a : Int) (b : Int) = ((orN a b : Nat) : Int) := i64_or a b (by omega) (by omega)
theorem orN_lt {a b m : Nat} (ha : a < 2 ^ m) (hb : b < 2 ^ m) : orN a b < 2 ^ m := Nat.or_lt_two_pow ha hb
theorem orN_add (a b : Nat) : (a : Int) + (b : Int) - ((andN a b : Nat) : Int) = ((orN a b : Nat) : Int) := by
  have h : a + b = (a ||| b) + (a &&& b) := and_or_add a b
  unfold andN orN
  omega
theorem andN_le (a b : Nat) : andN a b ≤ a := Nat.and_le_left
/-- Row by row one or the other. -/
def plusTo (a b : List Int) (k : Nat) : List Int := (List.range k).map fun i => ((orN (natAt a i) (natAt b i) : Nat) : Int)
theorem plusTo_length (a b : List Int) (k : Nat) : (plusTo a b k).length = k := by simp [plusTo]

theorem plusTo_get (a b : List Int) (k i : Nat) (h : i < k) : nth (plusTo a b k) i = ((orN (natAt a i) (natAt b i) : Nat) : Int) := by
  rw [nth_getElem _ _ (by rw [plusTo_length]; exact h)]; simp [plusTo]

/-- To where rows lead from a set, as far as the first k rows tell. -/
def imgTo (b : List Int) (set : Nat) : Nat → Nat
  | 0 => 0
  | k + 1 => if set.testBit k then orN (imgTo b set k) (natAt b k) else imgTo b set k
def img (b : List Int) (set : Nat) : Nat := imgTo b set b.length
theorem imgTo_succ (b : List Int) (set k : Nat) : imgTo b set (k + 1) = if set.testBit k then orN (imgTo b set k) (natAt b k) else imgTo b set k := rfl
theorem imgTo_lt {b : List Int} {m : Nat} (h : ∀ i, i < b.length → natAt b i < 2 ^ m) (set : Nat) : ∀ k, k ≤ b.length → imgTo b set k < 2 ^ m
  | 0, _ => Nat.two_pow_pos m
  | k + 1, hk => by
    rw [imgTo_succ]
    split
    · exact orN_lt (imgTo_lt h set k (by omega)) (h k (by omega))
    · exact imgTo_lt h set k (by omega)
theorem img_lt {b : List Int} {m : Nat} (h : ∀ i, i < b.length → natAt b i < 2 ^ m) (set : Nat) : img b set < 2 ^ m := imgTo_lt h set _ (Nat.le_refl _)
/-- Rows one behind the other. -/
def thenTo (a b : List Int) (k : Nat) : List Int := (List.range k).map fun i => ((img b (natAt a i) : Nat) : Int)
theorem thenTo_length (a b : List Int) (k : Nat) : (thenTo a b k).length = k := by simp [thenTo]
theorem thenTo_get (a b : List Int) (k i : Nat) (h : i < k) : nth (thenTo a b k) i = ((img b (natAt a i) : Nat) : Int) := by
  rw [nth_getElem _ _ (by rw [thenTo_length]; exact h)]; simp [thenTo]

/-- 2^k behind a name. -/
def pow2 (k : Nat) : Nat := 2 ^ k
theorem pow2_cast (k : Nat) : (2 : Int) ^ k = ((pow2 k : Nat) : Int) := by simp [pow2]
theorem pow2_le (k m : Nat) (h : k ≤ m) : pow2 k ≤ pow2 m := Nat.pow_le_pow_right (by decide) h
theorem pow2_pos (k : Nat) : 1 ≤ pow2 k := Nat.one_le_two_pow
/-- A set and to where it leads, once, and i times. -/
def stepN (a : List Int) (s : Nat) : Nat := orN s (img a s)
def iterN (a : List Int) (s : Nat) : Nat → Nat
  | 0 => s
  | i + 1 => stepN a (iterN a s i)
def clo (a : List Int) (s : Nat) : Nat := iterN a s 32
theorem iterN_succ (a : List Int) (s i : Nat) : iterN a s (i + 1) = stepN a (iterN a s i) := rfl
theorem stepN_ge (a : List Int) (s : Nat) : s ≤ stepN a s := Nat.left_le_or
theorem stepN_lt {a : List Int} {m : Nat} (h : ∀ i, i < a.length → natAt a i < 2 ^ m) {s : Nat} (hs : s < 2 ^ m) : stepN a s < 2 ^ m := orN_lt hs (img_lt h s)
theorem iterN_lt {a : List Int} {m : Nat} (h : ∀ i, i < a.length → natAt a i < 2 ^ m) {s : Nat} (hs : s < 2 ^ m) : ∀ i, iterN a s i < 2 ^ m
  | 0 => hs
  | i + 1 => stepN_lt h (iterN_lt h hs i)
theorem iterN_fix (a : List Int) (s i : Nat) (hf : stepN a (iterN a s i) = iterN a s i) : ∀ j, iterN a s (i + j) = iterN a s i
  | 0 => rfl
  | j + 1 => by rw [← Nat.add_assoc, iterN_succ, iterN_fix a s i hf j, hf]
theorem clo_of_fix (a : List Int) (s i : Nat) (hi : i ≤ 32) (hf : stepN a (iterN a s i) = iterN a s i) : clo a s = iterN a s i := by
  have := iterN_fix a s i hf (32 - i)
  rwa [show i + (32 - i) = 32 by omega] at this
theorem clo_lt {a : List Int} {m : Nat} (h : ∀ i, i < a.length → natAt a i < 2 ^ m) {s : Nat} (hs : s < 2 ^ m) : clo a s < 2 ^ m := iterN_lt h hs 32
/-- Again and again. -/
def starTo (a : List Int) (k : Nat) : List Int := (List.range k).map fun i => ((clo a (pow2 i) : Nat) : Int)
theorem starTo_length (a : List Int) (k : Nat) : (starTo a k).length = k := by simp [starTo]
theorem starTo_get (a : List Int) (k i : Nat) (h : i < k) : nth (starTo a k) i = ((clo a (pow2 i) : Nat) : Int) := by
  rw [nth_getElem _ _ (by rw [starTo_length]; exact h)]; simp [starTo]

end Go.Kt
namespace Go.Kt
set_option linter.unusedVariables false
open Go.RowKit

/-- The slice's n elements read as the numbers of L, three each. -/
def FlatAt (w : World) (a : Option Addr) (n : Nat) (L : List Int) : Prop :=
  L.length = n * 3 ∧ ∃ b off, (0 < n → a = some ⟨b, off, none⟩ ∧ b < w.heap.size) ∧ ∀ j, j < n * 3 → w.cell? ⟨b, off + j, none⟩ = some (.int .i64 (nth L j))
theorem FlatAt.ext {w w' : World} {a : Option Addr} {n : Nat} {L : List Int} (h : FlatAt w a n L) (e : Ext w w') : FlatAt w' a n L := by
  obtain ⟨hl, b, off, h1, h2⟩ := h
  exact ⟨hl, b, off, fun h0 => ⟨(h1 h0).1, Nat.lt_of_lt_of_le (h1 h0).2 e.size⟩, fun j hj => e.cell' (h2 j hj) (h1 (by omega)).2⟩
theorem FlatAt.len {w : World} {a : Option Addr} {n : Nat} {L : List Int} (h : FlatAt w a n L) : L.length = n * 3 := h.1
theorem FlatAt.nil (w : World) (a : Option Addr) : FlatAt w a 0 [] := ⟨rfl, 0, 0, fun h => absurd h (by simp), fun j h => absurd h (by simp)⟩
/-- The three of an element. -/
theorem FlatAt.cells {w : World} {a : Option Addr} {n : Nat} {L : List Int} (h : FlatAt w a n L) (hn : 0 < n) : ∃ b off, a = some ⟨b, off, none⟩ ∧ b < w.heap.size ∧
    ∀ i, i < n → w.cell? ⟨b, off + i * 3, none⟩ = some (.int .i64 (nth L (i * 3))) ∧ w.cell? ⟨b, off + i * 3 + 1, none⟩ = some (.int .i64 (nth L (i * 3 + 1))) ∧ w.cell? ⟨b, off + i * 3 + 2, none⟩ = some (.int .i64 (nth L (i * 3 + 2))) := by
  obtain ⟨hl, b, off, h1, h2⟩ := h
  obtain ⟨rfl, hb⟩ := h1 hn
  refine ⟨b, off, rfl, hb, fun i hi => ⟨h2 _ (by omega), ?_, ?_⟩⟩
  · rw [show off + i * 3 + 1 = off + (i * 3 + 1) by omega]; exact h2 _ (by omega)
  · rw [show off + i * 3 + 2 = off + (i * 3 + 2) by omega]; exact h2 _ (by omega)
/-- A slice of the call's own. -/
def OwnF (w : World) (B E : Nat) (v : Value) (n : Nat) (L : List Int) : Prop := w.ownsRow B E 3 v n (L.map (Value.int .i64))
theorem OwnF.len {w : World} {B E n : Nat} {v : Value} {L : List Int} (h : OwnF w B E v n L) : L.length = n * 3 := by have := h.1; simpa using this
theorem OwnF.row {w : World} {B E n : Nat} {v : Value} {L : List Int} (h : OwnF w B E v n L) (hn : 0 < n) :
    ∃ g cap, v = .slice (some ⟨g, 0, none⟩) n cap ∧ B ≤ g ∧ g < w.heap.size ∧ (∀ j, j < n * 3 → w.cell? ⟨g, j, none⟩ = some (.int .i64 (nth L j))) ∧ ∀ j, w.frozen? ⟨g, j, none⟩ = false := by
  have hl := h.len
  have h' := h
  rcases h'.2 with ⟨_, h0⟩ | ⟨g, cap, cur, rfl, hB, hg, _⟩
  · omega
  · refine ⟨g, cap, rfl, hB, (Array.getElem?_eq_some_iff.1 hg).1, fun j hj => ?_, fun j => World.ownsRow.frozenAt h j⟩
    rw [World.ownsRow.cellAt h j hj, map_get L j (by omega)]
theorem OwnF.shape {w : World} {B E n : Nat} {v : Value} {L : List Int} (h : OwnF w B E v n L) : ∃ a cap, v = .slice a n cap ∧ FlatAt w a n L := by
  have hl := h.len
  by_cases hn : 0 < n
  · obtain ⟨g, cap, rfl, _, hg, hc, _⟩ := h.row hn
    exact ⟨_, cap, rfl, hl, g, 0, fun _ => ⟨rfl, hg⟩, fun j hj => by rw [Nat.zero_add]; exact hc j hj⟩
  · obtain rfl : n = 0 := by omega
    have hL : L = [] := List.eq_nil_of_length_eq_zero (by omega)
    subst hL
    rcases h.2 with ⟨rfl, _⟩ | ⟨g, cap, cur, rfl, _⟩
    · exact ⟨none, 0, rfl, FlatAt.nil _ _⟩
    · exact ⟨_, cap, rfl, FlatAt.nil _ _⟩
theorem OwnF.ext {w w' : World} {B E n : Nat} {v : Value} {L : List Int} (h : OwnF w B E v n L) (e : Ext w w') : OwnF w' B E v n L := own_ext h e
theorem OwnF.mono {w : World} {B B' E n : Nat} {v : Value} {L : List Int} (h : OwnF w B E v n L) (hB : B' ≤ B) : OwnF w B' E v n L := own_mono h hB
theorem OwnF.kept {w w' : World} {B E n : Nat} {v : Value} {L : List Int} {row : Option Nat} (h : OwnF w B E v n L) (hg : w.grownBy w' row) (hne : v.ownBlock = none ∨ v.ownBlock ≠ row) : OwnF w' B E v n L := World.ownsRow.kept h hg hne
theorem OwnF.set {w : World} {B E n g cap : Nat} {L : List Int} (h : OwnF w B E (.slice (some ⟨g, 0, none⟩) n cap) n L) (k : Nat) (u : Int) :
    OwnF (w.setCell ⟨g, k, none⟩ (.int .i64 u)) B E (.slice (some ⟨g, 0, none⟩) n cap) n (L.set k u) ∧ w.grownBy (w.setCell ⟨g, k, none⟩ (.int .i64 u)) (some g) := by
  have := World.ownsRow.stored h k (.int .i64 u)
  unfold OwnF
  rw [List.map_set]
  exact this
theorem OwnF.grown {w0 w w' : World} {E n : Nat} {v : Value} {L : List Int} (h : OwnF w w0.heap.size E v n L) (hx : Ext w0 w) (hg : w.grownBy w' v.ownBlock) : Ext w0 w' :=
  Below.grown hx hg hx.size fun k hk => (World.ownsRow.lt h k hk).1
theorem OwnF.nil (w : World) (B E : Nat) : OwnF w B E (.slice none 0 0) 0 [] := ⟨rfl, .inl ⟨rfl, rfl⟩⟩
theorem OwnF.empty (w : World) (E : Nat) : OwnF (w.alloc (.cells #[] E)) w.heap.size E (.slice (some ⟨w.heap.size, 0, none⟩) 0 0) 0 [] :=
  World.ownsRow_made w #[] 0 (Nat.le_refl _) (by unfold maxLen; omega) rfl
end Go.Kt
namespace Go.Kt
set_option linter.unusedVariables false

/-- All of s is in t. -/
def Sub (s t : Nat) : Prop := ∀ i, s.testBit i = true → t.testBit i = true
theorem Sub.refl (s : Nat) : Sub s s := fun _ h => h
theorem Sub.trans {a b c : Nat} (h : Sub a b) (k : Sub b c) : Sub a c := fun i hi => k i (h i hi)
theorem Sub.antisymm {a b : Nat} (h : Sub a b) (k : Sub b a) : a = b := by
  apply Nat.eq_of_testBit_eq
  intro i
  rw [Bool.eq_iff_iff]
  exact ⟨h i, k i⟩
theorem testBit_orN (a b i : Nat) : (orN a b).testBit i = (a.testBit i || b.testBit i) := Nat.testBit_or a b i
theorem sub_of_orN {a b : Nat} (h : orN a b = a) : Sub b a := fun i hi => by
  have := testBit_orN a b i
  rw [h, hi] at this
  simpa using this
theorem testBit_pow2 (k i : Nat) : (pow2 k).testBit i = decide (k = i) := Nat.testBit_two_pow
theorem testBit_lt {s n i : Nat} (h : s < 2 ^ n) (hi : s.testBit i = true) : i < n := by
  apply Decidable.byContradiction
  intro hn
  rw [Nat.testBit_lt_two_pow (Nat.lt_of_lt_of_le h (Nat.pow_le_pow_right (by decide) (by omega)))] at hi
  cases hi

theorem testBit_imgTo (b : List Int) (s t : Nat) : ∀ k, (imgTo b s k).testBit t = true ↔ ∃ i, i < k ∧ s.testBit i = true ∧ (natAt b i).testBit t = true
  | 0 => by simp [imgTo]
  | k + 1 => by
    rw [imgTo_succ]
    split
    · rename_i h
      rw [testBit_orN, Bool.or_eq_true, testBit_imgTo b s t k]
      constructor
      · rintro (⟨i, h1, h2, h3⟩ | h1)
        · exact ⟨i, by omega, h2, h3⟩
        · exact ⟨k, by omega, h, h1⟩
      · rintro ⟨i, h1, h2, h3⟩
        by_cases hik : i = k
        · subst hik; exact .inr h3
        · exact .inl ⟨i, by omega, h2, h3⟩
    · rename_i h
      rw [testBit_imgTo b s t k]
      constructor
      · rintro ⟨i, h1, h2, h3⟩; exact ⟨i, by omega, h2, h3⟩
      · rintro ⟨i, h1, h2, h3⟩
        by_cases hik : i = k
        · subst hik; exact absurd h2 h
        · exact ⟨i, by omega, h2, h3⟩
theorem testBit_img (b : List Int) (s t : Nat) : (img b s).testBit t = true ↔ ∃ i, i < b.length ∧ s.testBit i = true ∧ (natAt b i).testBit t = true := testBit_imgTo b s t _
theorem img_mono (b : List Int) {s t : Nat} (h : Sub s t) : Sub (img b s) (img b t) := fun i hi => by
  obtain ⟨j, h1, h2, h3⟩ := (testBit_img b s i).1 hi
  exact (testBit_img b t i).2 ⟨j, h1, h j h2, h3⟩
theorem natAt_cast {l : List Int} {i n : Nat} (h : nth l i = ((n : Nat) : Int)) : natAt l i = n := by
  unfold natAt; rw [h]; rfl
theorem natAt_plus (a b : List Int) (k i : Nat) (h : i < k) : natAt (plusTo a b k) i = orN (natAt a i) (natAt b i) := natAt_cast (plusTo_get a b k i h)
theorem natAt_then (a b : List Int) (k i : Nat) (h : i < k) : natAt (thenTo a b k) i = img b (natAt a i) := natAt_cast (thenTo_get a b k i h)
theorem natAt_star (a : List Int) (k i : Nat) (h : i < k) : natAt (starTo a k) i = clo a (pow2 i) := natAt_cast (starTo_get a k i h)
/-- Two lists of sets with the same sets are the same. -/
theorem ext_natAt (l l' : List Int) (hs : Sets l) (hs' : Sets l') (h : l.length = l'.length) (e : ∀ j, j < l.length → natAt l j = natAt l' j) : l = l' :=
  ext_nth l l' h fun j hj => by rw [hs.eq j hj, hs'.eq j (by omega), e j hj]
theorem sets_of_cast {l : List Int} (f : Nat → Nat) (h : ∀ i, i < l.length → nth l i = ((f i : Nat) : Int)) (hf : ∀ i, i < l.length → f i < 4294967296) : Sets l := fun i hi => by
  have := hf i hi
  rw [h i hi]; omega

structure Rel (n : Nat) (l : List Int) : Prop where
  len : l.length = n
  le : n ≤ 31
  sets : Sets l
  lt : ∀ i, i < n → natAt l i < 2 ^ n
theorem two_pow_31 {n m : Nat} (h : n ≤ 31) (hm : m < 2 ^ n) : m < 4294967296 := Nat.lt_of_lt_of_le hm (Nat.pow_le_pow_right (by decide) (show n ≤ 32 by omega))
theorem Rel.lt' {n : Nat} {l : List Int} (h : Rel n l) : ∀ i, i < l.length → natAt l i < 2 ^ n := fun i hi => h.lt i (by rw [h.len] at hi; exact hi)
theorem Rel.img_lt {n : Nat} {l : List Int} (h : Rel n l) (s : Nat) : img l s < 2 ^ n := Go.Kt.img_lt h.lt' s
theorem Rel.thenTo {n : Nat} {a b : List Int} (ha : Rel n a) (hb : Rel n b) : Rel n (thenTo a b a.length) := by
  have hl : (Go.Kt.thenTo a b a.length).length = n := by rw [thenTo_length, ha.len]
  refine ⟨hl, ha.le, ?_, ?_⟩
  · refine sets_of_cast (fun i => img b (natAt a i)) (fun i hi => thenTo_get a b _ i (by rw [thenTo_length] at hi; exact hi)) fun i _ => two_pow_31 ha.le (hb.img_lt _)
  · intro i hi
    rw [natAt_then a b _ i (by rw [ha.len]; exact hi)]
    exact hb.img_lt _
theorem Rel.plusTo {n : Nat} {a b : List Int} (ha : Rel n a) (hb : Rel n b) : Rel n (plusTo a b a.length) := by
  have hl : (Go.Kt.plusTo a b a.length).length = n := by rw [plusTo_length, ha.len]
  have hlt : ∀ i, i < n → orN (natAt a i) (natAt b i) < 2 ^ n := fun i hi => orN_lt (ha.lt i hi) (hb.lt i hi)
  refine ⟨hl, ha.le, ?_, ?_⟩
  · refine sets_of_cast (fun i => orN (natAt a i) (natAt b i)) (fun i hi => plusTo_get a b _ i (by rw [plusTo_length] at hi; exact hi)) fun i hi => two_pow_31 ha.le (hlt i (by omega))
  · intro i hi
    rw [natAt_plus a b _ i (by rw [ha.len]; exact hi)]
    exact hlt i hi
theorem pow2_lt_two {n i : Nat} (h : i < n) : pow2 i < 2 ^ n := Nat.pow_lt_pow_right (by decide) h
theorem iter_grows (a : List Int) (s : Nat) : ∀ i, (∀ j, j < i → stepN a (iterN a s j) ≠ iterN a s j) → i ≤ iterN a s i
  | 0, _ => Nat.zero_le _
  | i + 1, h => by
    have h1 := iter_grows a s i (fun j hj => h j (by omega))
    have h2 := h i (by omega)
    have h3 := stepN_ge a (iterN a s i)
    rw [iterN_succ]
    omega
/-- At most 5 states: the closure is closed. -/
theorem clo_fix {n : Nat} {a : List Int} (ha : Rel n a) (hn : n ≤ 5) {s : Nat} (hs : s < 2 ^ n) : stepN a (clo a s) = clo a s := by
  apply Decidable.byContradiction
  intro hne
  have hall : ∀ j, j < 32 → stepN a (iterN a s j) ≠ iterN a s j := by
    intro j hj he
    exact hne (by rw [clo_of_fix a s j (by omega) he]; exact he)
  have h1 := iter_grows a s 32 hall
  have h2 := iterN_lt ha.lt' hs 32
  have h3 : (2 : Nat) ^ n ≤ 2 ^ 5 := Nat.pow_le_pow_right (by decide) hn
  omega
theorem clo_img {n : Nat} {a : List Int} (ha : Rel n a) (hn : n ≤ 5) {s : Nat} (hs : s < 2 ^ n) : Sub (img a (clo a s)) (clo a s) := sub_of_orN (clo_fix ha hn hs)
theorem sub_step (a : List Int) (s : Nat) : Sub s (stepN a s) := fun i hi => by rw [stepN, testBit_orN, hi]; rfl
theorem sub_iter (a : List Int) (s : Nat) : ∀ i, Sub s (iterN a s i)
  | 0 => Sub.refl s
  | i + 1 => (sub_iter a s i).trans (sub_step a _)
theorem sub_clo (a : List Int) (s : Nat) : Sub s (clo a s) := sub_iter a s 32
/-- It is the least closed set. -/
theorem clo_least (a : List Int) {s x : Nat} (h : Sub s x) (hx : Sub (img a x) x) : Sub (clo a s) x := by
  have : ∀ i, Sub (iterN a s i) x := by
    intro i
    induction i with
    | zero => exact h
    | succ i ih =>
      intro t ht
      rw [iterN_succ, stepN, testBit_orN, Bool.or_eq_true] at ht
      rcases ht with ht | ht
      · exact ih t ht
      · exact hx t (img_mono a ih t ht)
  exact this 32
theorem Rel.starTo {n : Nat} {a : List Int} (ha : Rel n a) : Rel n (starTo a a.length) := by
  have hl : (Go.Kt.starTo a a.length).length = n := by rw [starTo_length, ha.len]
  have hlt : ∀ i, i < n → clo a (pow2 i) < 2 ^ n := fun i hi => clo_lt ha.lt' (pow2_lt_two hi)
  refine ⟨hl, ha.le, ?_, ?_⟩
  · refine sets_of_cast (fun i => clo a (pow2 i)) (fun i hi => starTo_get a _ i (by rw [starTo_length] at hi; exact hi)) fun i hi => two_pow_31 ha.le (hlt i (by omega))
  · intro i hi
    rw [natAt_star a _ i (by rw [ha.len]; exact hi)]
    exact hlt i hi
/-- The atom of a state. -/
def atomI (p q : Int) (s : Nat) : Nat := (p.toNat.testBit s).toNat + 2 * (q.toNat.testBit s).toNat
theorem atomI_le (p q : Int) (s : Nat) : atomI p q s ≤ 3 := by
  unfold atomI
  cases p.toNat.testBit s <;> cases q.toNat.testBit s <;> decide
/-- The states, of the first k, in which a test holds. -/
def tsTo (p q : Int) (t : Nat) : Nat → Nat
  | 0 => 0
  | k + 1 => tsTo p q t k + if t.testBit (atomI p q k) then pow2 k else 0
theorem tsTo_succ (p q : Int) (t k : Nat) : tsTo p q t (k + 1) = tsTo p q t k + if t.testBit (atomI p q k) then pow2 k else 0 := rfl
theorem tsTo_lt (p q : Int) (t : Nat) : ∀ k, tsTo p q t k < 2 ^ k
  | 0 => by simp [tsTo]
  | k + 1 => by
    have := tsTo_lt p q t k
    rw [tsTo_succ, Nat.pow_succ]
    unfold pow2
    split <;> omega
theorem tsTo_or (p q : Int) (t k : Nat) (h : t.testBit (atomI p q k) = true) : orN (tsTo p q t k) (pow2 k) = tsTo p q t (k + 1) := by
  have := Nat.two_pow_add_eq_or_of_lt (tsTo_lt p q t k) 1
  rw [Nat.mul_one] at this
  rw [tsTo_succ, if_pos h, orN, pow2, Nat.or_comm, ← this, Nat.add_comm]
theorem testBit_tsTo (p q : Int) (t s : Nat) : ∀ k, (tsTo p q t k).testBit s = true ↔ s < k ∧ t.testBit (atomI p q s) = true
  | 0 => by simp [tsTo]
  | k + 1 => by
    cases hb : t.testBit (atomI p q k)
    · rw [tsTo_succ, hb]
      simp only [Bool.false_eq_true, if_false, Nat.add_zero]
      rw [testBit_tsTo p q t s k]
      constructor
      · rintro ⟨h1, h2⟩; exact ⟨by omega, h2⟩
      · rintro ⟨h1, h2⟩
        by_cases hsj : s = k
        · subst hsj; rw [hb] at h2; cases h2
        · exact ⟨by omega, h2⟩
    · rw [← tsTo_or p q t k hb, testBit_orN, Bool.or_eq_true, testBit_tsTo p q t s k, testBit_pow2, decide_eq_true_eq]
      constructor
      · rintro (⟨h1, h2⟩ | rfl)
        · exact ⟨by omega, h2⟩
        · exact ⟨by omega, hb⟩
      · rintro ⟨h1, h2⟩
        by_cases hsj : s = k
        · exact .inr hsj.symm
        · exact .inl ⟨by omega, h2⟩
end Go.Kt
namespace Go.Kt
set_option linter.unusedVariables false
open Go.RowKit

/-- The three of an instruction. -/
def kd (L : List Int) (i : Nat) : Int := nth L (i * 3)
def tg (L : List Int) (i : Nat) : Int := nth L (i * 3 + 2)
/-- Where jumps are after m steps from a. -/
def pos (L : List Int) (a : Nat) : Nat → Nat
  | 0 => a
  | m + 1 => (tg L (pos L a m)).toNat
/-- The first of a, and so on, that is no jump, of so many; none if there is none. -/
def hop (L : List Int) : Nat → Nat → Option Nat
  | 0, _ => none
  | f + 1, a => if kd L a = 2 then hop L f (tg L a).toNat else some a
inductive Reach (L : List Int) : Nat → Prop
  | start : Reach L 0
  | fall (i : Nat) : Reach L i → kd L i < 2 → Reach L (i + 1)
  | goto (i : Nat) : Reach L i → (kd L i = 1 ∨ kd L i = 2) → Reach L (tg L i).toNat
end Go.Kt
namespace Go.Kt
set_option linter.unusedVariables false
open Go.RowKit

theorem run_append_none0 {P : Program} {w : World} (base : Nat) (t ty e : TypeId) (i : TypeInfo) (size : Nat) (ht : P.underlying t = some (.slice e)) (hi : P.info? e = some i)
    (v : Value) (n : Nat) (xs : List Value) (hown : w.ownsRow base e size v n xs) (ax : Option Addr) (c : Nat) : (Builtin.append_ #[t, t] ty #[v, .slice ax 0 c]).run P w = .ok v w := by
  rcases hown.2 with ⟨rfl, rfl⟩ | ⟨g, cap, cur, rfl, _, _, hnc, _⟩
  · cases ax <;> simp [Builtin.append_, run_underlying ht, sizeOf, typeInfo, hi, Builtin.lenOf, Builtin.firstCells, loadCells, loadCellsFrom]
  · cases ax <;> simp [Builtin.append_, run_underlying ht, sizeOf, typeInfo, hi, Builtin.lenOf, Builtin.firstCells, hnc, storeCells, loadCells, loadCellsFrom]
/-- append(s, xs...): what follows, at a law on one operation. -/
theorem wp_append_of {P : Program} {o : Oper} {a : Act} {K : Act → World → Prop} {Q : Exit → Act → World → Prop} {w : World} (s x : Operand) (t : TypeId)
    (ho : o.op = .call { callee := .builtin .append, args := #[s, x], argTypes := #[t, t] }) (B E size by' : Nat) (z : Value) (ht : P.underlying t = some (.slice E))
    (hinfo : (P.info? E).map (fun i => (i.zero, i.size, i.bytes)) = some (some z, size, by')) (hz : z.cells.size = size) (hsz : 0 < size) (hby : by' ≤ 100)
    (v : Value) (n : Nat) (xs : List Value) (hs : a.eval s = v) (hown : w.ownsRow B E size v n xs) (ax : Option Addr) (m cx : Nat) (news : List Value) (hx : a.eval x = .slice ax m cx) (hl : news.length = m * size)
    (hi : 0 < m → ∃ b off, ax = some ⟨b, off, none⟩ ∧ ∀ j u, news[j]? = some u → w.cell? ⟨b, off + j, none⟩ = some u) (h1 : ∀ u ∈ news, u.oneCell' = true)
    (hlen : n + m ≤ 1099511627776) (hB : B ≤ w.heap.size)
    (h : ∀ v' w', w'.ownsRow B E size v' (n + m) (xs ++ news) → w.grownBy w' v.ownBlock → K (a.put o.dst v') w') : o.wp P a w K Q := by
  obtain ⟨i, hi', hz0, hz1, hz2⟩ := info_parts hinfo
  by_cases hm : 0 < m
  · obtain ⟨b, off, rfl, hc⟩ := hi hm
    refine wp_append_own w s x t ho B E i z size by' ht hi' hz0 hz1 hz2 hz hsz v n xs hs hown ⟨b, off, none⟩ m cx news hx hl ?_ h1 (by unfold maxLen; omega) (Nat.le_trans (Nat.mul_le_mul hlen hby) (by decide)) hB (fun v' w' h2 h3 _ => h v' w' h2 h3)
    intro j u hj
    have hadd : (⟨b, off, none⟩ : Addr).add j = ⟨b, off + j, none⟩ := by unfold Addr.add; split <;> simp_all
    rw [hadd]
    exact hc j u hj
  · obtain rfl : m = 0 := by omega
    have hn : news = [] := List.eq_nil_of_length_eq_zero (by simpa using hl)
    subst hn
    have hrun := run_append_none0 (P := P) (w := w) B t o.type E i size ht hi' v n xs hown ax cx
    have hk := h v w (by simpa using hown) ((Ext.refl w).grown _)
    unfold Oper.wp execOp
    simp only [ho, resolve, invoke, builtin, Sem.run_bind, Sem.run_pure, Result.andThen_ok, List.map_toArray, List.map_cons, List.map_nil, hs, hx, hrun]
    exact hk
theorem flat_one (R : List Int) : ∀ u ∈ R.map (Value.int .i64), u.oneCell' = true := by
  intro u hu
  obtain ⟨q, _, rfl⟩ := List.mem_map.1 hu
  rfl
theorem ints_src {w : World} {ax : Option Addr} {R : List Int} (h : IntsAt w ax R) (hm : 0 < R.length) : ∃ b off, ax = some ⟨b, off, none⟩ ∧ ∀ j u, (R.map (Value.int .i64))[j]? = some u → w.cell? ⟨b, off + j, none⟩ = some u := by
  obtain ⟨b, off, h1, h2⟩ := h
  refine ⟨b, off, (h1 hm).1, fun j u hj => ?_⟩
  have hjl : j < R.length := by have := (List.getElem?_eq_some_iff.1 hj).1; simpa using this
  rw [map_get R j hjl, Option.some.injEq] at hj
  subst hj
  exact h2 j hjl
/-- append of a slice of ints, be it empty or not. -/
theorem any_append_ints {P : Program} {ops : Array Oper} {rest : List Oper} {o : Oper} {a : Act} {Q : Exit → Act → World → Prop} {w : World} (hw : Region.wanted o (yielded ops a.tmps) = true) (s x : Operand) (t : TypeId)
    (ho : o.op = .call { callee := .builtin .append, args := #[s, x], argTypes := #[t, t] }) (B E : Nat) (ht : P.underlying t = some (.slice E))
    (hinfo : (P.info? E).map (fun i => (i.zero, i.size, i.bytes)) = some (some (.int .i64 0), 1, 8))
    (v : Value) (l : List Int) (hs : a.eval s = v) (hown : OwnI w B E v l) (ax : Option Addr) (cx : Nat) (r : List Int) (hx : a.eval x = .slice ax r.length cx) (hi : IntsAt w ax r)
    (hlen : l.length + r.length ≤ 1099511627776) (hB : B ≤ w.heap.size)
    (h : ∀ v' w', OwnI w' B E v' (l ++ r) → w.grownBy w' v.ownBlock → wpList P ops Q rest (a.put o.dst v') w') : wpList P ops Q (o :: rest) a w :=
  BigFrame.wpList_want hw fun K hK' => wp_append_of s x t ho B E 1 8 _ ht hinfo rfl (by decide) (by decide) v l.length _ hs hown ax r.length cx (r.map (Value.int .i64)) hx (by simp) (ints_src hi) (flat_one r) hlen hB
    fun v' w' h1 h2 => hK' _ _ (h v' w' (by unfold OwnI; rw [List.map_append, List.length_append]; exact h1) h2)
theorem astep_append_ints {P : Program} {ops : Array Oper} {o : Oper} {a : Act} {K : Act → World → Prop} {Q : Exit → Act → World → Prop} {X : Prop} {w : World} (hgd : o.guard = none) (s x : Operand) (t : TypeId)
    (ho : o.op = .call { callee := .builtin .append, args := #[s, x], argTypes := #[t, t] }) (B E : Nat) (ht : P.underlying t = some (.slice E))
    (hinfo : (P.info? E).map (fun i => (i.zero, i.size, i.bytes)) = some (some (.int .i64 0), 1, 8))
    (v : Value) (l : List Int) (hs : a.eval s = v) (hown : OwnI w B E v l) (ax : Option Addr) (cx : Nat) (r : List Int) (hx : a.eval x = .slice ax r.length cx) (hi : IntsAt w ax r)
    (hlen : l.length + r.length ≤ 1099511627776) (hB : B ≤ w.heap.size)
    (h : ∀ v' w', OwnI w' B E v' (l ++ r) → w.grownBy w' v.ownBlock → K (a.put o.dst v') w') : if Region.wanted o (yielded ops a.tmps) = true then Oper.wp P o a w K Q else X := by
  have hw : Region.wanted o (yielded ops a.tmps) = true := by simp [Region.wanted, hgd]
  rw [if_pos hw]
  exact wp_append_of s x t ho B E 1 8 _ ht hinfo rfl (by decide) (by decide) v l.length _ hs hown ax r.length cx (r.map (Value.int .i64)) hx (by simp) (ints_src hi) (flat_one r) hlen hB
    fun v' w' h1 h2 => h v' w' (by unfold OwnI; rw [List.map_append, List.length_append]; exact h1) h2
theorem OwnF.lit (w : World) (B E : Nat) (x y z : Int) (hB : B ≤ w.heap.size) : OwnF (w.alloc (.cells #[.int .i64 x, .int .i64 y, .int .i64 z] E)) B E (.slice (some ⟨w.heap.size, 0, none⟩) 1 1) 1 [x, y, z] :=
  World.ownsRow_lit (base := B) (e := E) (size := 3) w #[.int .i64 x, .int .i64 y, .int .i64 z] 1 hB (by unfold maxLen; omega) rfl
theorem OwnI.lit1 (w : World) (B E : Nat) (x : Int) (hB : B ≤ w.heap.size) : OwnI (w.alloc (.cells #[.int .i64 x] E)) B E (.slice (some ⟨w.heap.size, 0, none⟩) 1 1) [x] :=
  World.ownsRow_lit (base := B) (e := E) (size := 1) w #[.int .i64 x] 1 hB (by unfold maxLen; omega) rfl
theorem IntsAt.left {w : World} {b off : Nat} {xs ys : List Int} (h : IntsAt w (some ⟨b, off, none⟩) (xs ++ ys)) : IntsAt w (some ⟨b, off, none⟩) xs := by
  obtain ⟨b', off', h1, h2⟩ := h
  by_cases hx : 0 < xs.length
  · obtain ⟨he, hb⟩ := h1 (by simp; omega)
    obtain ⟨rfl, rfl⟩ : b = b' ∧ off = off' := by simpa using he
    refine ⟨b, off, fun _ => ⟨rfl, hb⟩, fun i hi => ?_⟩
    rw [h2 i (by simp; omega)]
    unfold nth; rw [List.getD_eq_getElem?_getD, List.getD_eq_getElem?_getD, List.getElem?_append_left hi]
  · exact ⟨0, 0, fun h => absurd h hx, fun i hi => absurd hi (by omega)⟩
theorem IntsAt.right {w : World} {b off : Nat} {xs ys : List Int} (h : IntsAt w (some ⟨b, off, none⟩) (xs ++ ys)) : IntsAt w (some ⟨b, off + xs.length, none⟩) ys := by
  obtain ⟨b', off', h1, h2⟩ := h
  by_cases hy : 0 < ys.length
  · obtain ⟨he, hb⟩ := h1 (by simp; omega)
    obtain ⟨rfl, rfl⟩ : b = b' ∧ off = off' := by simpa using he
    refine ⟨b, off + xs.length, fun _ => ⟨rfl, hb⟩, fun i hi => ?_⟩
    rw [Nat.add_assoc, h2 (xs.length + i) (by simp; omega)]
    unfold nth; rw [List.getD_eq_getElem?_getD, List.getD_eq_getElem?_getD, List.getElem?_append_right (by omega), Nat.add_sub_cancel_left]
  · exact ⟨0, 0, fun h => absurd h hy, fun i hi => absurd hi (by omega)⟩
theorem IntsAt.at_ {w : World} {b off : Nat} {xs ys : List Int} {s : Int} (h : IntsAt w (some ⟨b, off, none⟩) (xs ++ s :: ys)) : w.cell? ⟨b, off + xs.length, none⟩ = some (.int .i64 s) ∧ b < w.heap.size := by
  have h2 := IntsAt.right h
  obtain ⟨b', off', h1, h2⟩ := h2
  obtain ⟨he, hb⟩ := h1 (by simp)
  obtain ⟨rfl, rfl⟩ : b = b' ∧ off + xs.length = off' := by simpa using he
  exact ⟨by have := h2 0 (by simp); simpa [nth] using this, hb⟩
theorem Ext.row {w0 w w' : World} {row : Option Nat} (hx : Ext w0 w) (hg : w.grownBy w' row) (hr : ∀ k, row = some k → w0.heap.size ≤ k) : Ext w0 w' := Below.grown hx hg hx.size hr
theorem Ext.rowOf {w0 w w' : World} {g n c : Nat} (hx : Ext w0 w) (hg : w.grownBy w' (Value.slice (some ⟨g, 0, none⟩) n c).ownBlock) (hr : w0.heap.size ≤ g) : Ext w0 w' :=
  Ext.row hx hg fun k hk => by simp [Value.ownBlock] at hk; omega
end Go.Kt
namespace Go.Kt
set_option linter.unusedVariables false
open Go.RowKit

/-- The slice v holds slices that read as the rows of ll (the first k of them), each in a block of its own; all blocks lie from B on, and below T. -/
structure OwnRk (w : World) (B T E ER : Nat) (v : Value) (n : Nat) (ll : List (List Int)) (k : Nat) : Prop where
  base : B ≤ T
  top : T ≤ w.heap.size
  outer : ∃ vs : List Value, w.ownsRow B ER 1 v n vs ∧ (∀ g, v.ownBlock = some g → g < T) ∧
    (∀ i, i < k → ∃ ai ci, vs[i]? = some (.slice ai (rowI ll i).length ci) ∧ OwnI w B E (.slice ai (rowI ll i).length ci) (rowI ll i) ∧ (∀ g, (Value.slice ai (rowI ll i).length ci).ownBlock = some g → g < T) ∧
      ((Value.slice ai (rowI ll i).length ci).ownBlock = none ∨ (Value.slice ai (rowI ll i).length ci).ownBlock ≠ v.ownBlock)) ∧
    (∀ i j x y, i < k → j < k → i ≠ j → vs[i]? = some x → vs[j]? = some y → x.ownBlock = none ∨ x.ownBlock ≠ y.ownBlock)
/-- All rows. -/
def OwnR (w : World) (B T E ER : Nat) (v : Value) (ll : List (List Int)) : Prop := OwnRk w B T E ER v ll.length ll ll.length

theorem OwnRk.ext {w w' : World} {B T E ER n k : Nat} {v : Value} {ll : List (List Int)} (h : OwnRk w B T E ER v n ll k) (e : Ext w w') : OwnRk w' B T E ER v n ll k := by
  obtain ⟨vs, h1, h2, h3, h4⟩ := h.outer
  refine ⟨h.base, Nat.le_trans h.top e.size, vs, own_ext h1 e, h2, fun i hi => ?_, h4⟩
  obtain ⟨ai, ci, g1, g2, g3, g4⟩ := h3 i hi
  exact ⟨ai, ci, g1, g2.ext e, g3, g4⟩
theorem OwnR.ext {w w' : World} {B T E ER : Nat} {v : Value} {ll : List (List Int)} (h : OwnR w B T E ER v ll) (e : Ext w w') : OwnR w' B T E ER v ll := OwnRk.ext h e
theorem own_slice {w : World} {B E s n : Nat} {v : Value} {xs : List Value} (h : w.ownsRow B E s v n xs) : ∃ a cap, v = .slice a n cap := by
  rcases h.2 with ⟨rfl, h0⟩ | ⟨g, cap, cur, rfl, _⟩
  · exact ⟨none, 0, by rw [h0]⟩
  · exact ⟨_, cap, rfl⟩
theorem OwnRk.shape {w : World} {B T E ER n k : Nat} {v : Value} {ll : List (List Int)} (h : OwnRk w B T E ER v n ll k) : ∃ a cap, v = .slice a n cap := by
  obtain ⟨vs, h1, _⟩ := h.outer
  exact own_slice h1
theorem OwnR.shape {w : World} {B T E ER : Nat} {v : Value} {ll : List (List Int)} (h : OwnR w B T E ER v ll) : ∃ a cap, v = .slice a ll.length cap := OwnRk.shape h
theorem own_head {w : World} {B E s n cap : Nat} {a : Option Addr} {xs : List Value} (h : w.ownsRow B E s (.slice a n cap) n xs) (hn : 0 < n) : ∃ g, a = some ⟨g, 0, none⟩ ∧ B ≤ g ∧ g < w.heap.size := by
  rcases h.2 with ⟨hv, h0⟩ | ⟨g, cap', cur, hv, hB, hg, _⟩
  · omega
  · have : a = some ⟨g, 0, none⟩ ∧ cap = cap' := by simpa using hv
    exact ⟨g, this.1, hB, (Array.getElem?_eq_some_iff.1 hg).1⟩
/-- The outer cells, and each row. -/
theorem OwnRk.row {w : World} {B T E ER n k : Nat} {a : Option Addr} {cap : Nat} {ll : List (List Int)} (h : OwnRk w B T E ER (.slice a n cap) n ll k) (hk : k ≤ n) (hn : 0 < n) :
    ∃ g, a = some ⟨g, 0, none⟩ ∧ B ≤ g ∧ g < T ∧ g < w.heap.size ∧ (∀ i, w.frozen? ⟨g, i, none⟩ = false) ∧ (∀ i, i < n → ∃ x, w.cell? ⟨g, i, none⟩ = some x) ∧
      ∀ i, i < k → ∃ ai ci, w.cell? ⟨g, i, none⟩ = some (.slice ai (rowI ll i).length ci) ∧ OwnI w B E (.slice ai (rowI ll i).length ci) (rowI ll i) := by
  obtain ⟨vs, h1, h2, h3, h4⟩ := h.outer
  obtain ⟨g, rfl, hB, hg⟩ := own_head h1 hn
  refine ⟨g, rfl, hB, h2 g rfl, hg, fun i => World.ownsRow.frozenAt h1 i, fun i hi => ?_, fun i hi => ?_⟩
  · rw [World.ownsRow.cellAt h1 i (by omega)]
    have hl : vs.length = n * 1 := h1.1
    exact ⟨_, List.getElem?_eq_getElem (by omega)⟩
  · obtain ⟨ai, ci, g1, g2, _, _⟩ := h3 i hi
    exact ⟨ai, ci, by rw [World.ownsRow.cellAt h1 i (by omega)]; exact g1, g2⟩
theorem OwnR.rows {w : World} {B T E ER n : Nat} {a : Option Addr} {cap : Nat} {ll : List (List Int)} (h : OwnR w B T E ER (.slice a n cap) ll) : RowsAt w a ll := by
  obtain ⟨a', c', hv⟩ := h.shape
  obtain ⟨rfl, rfl, rfl⟩ : a = a' ∧ n = ll.length ∧ cap = c' := by simpa using hv
  by_cases hl : 0 < ll.length
  · obtain ⟨g, rfl, _, _, hg, _, _, hr⟩ := OwnRk.row h (Nat.le_refl _) hl
    refine ⟨g, 0, fun _ => ⟨rfl, hg⟩, fun i hi => ?_⟩
    obtain ⟨ai, ci, g1, g2⟩ := hr i hi
    exact ⟨ai, ci, by rw [Nat.zero_add]; exact g1, g2.ints⟩
  · exact ⟨0, 0, fun h0 => absurd h0 hl, fun i hi => absurd hi (by omega)⟩
theorem OwnR.len {w : World} {B T E ER n : Nat} {a : Option Addr} {cap : Nat} {ll : List (List Int)} (h : OwnR w B T E ER (.slice a n cap) ll) : n = ll.length := by
  obtain ⟨a', c', hv⟩ := h.shape
  have : a = a' ∧ n = ll.length ∧ cap = c' := by simpa using hv
  exact this.2.1
/-- A row more is stored. -/
theorem OwnRk.step {w w' : World} {B T E ER n k g cap : Nat} {ll : List (List Int)} {u : Value} (h : OwnRk w B T E ER (.slice (some ⟨g, 0, none⟩) n cap) n ll k) (e : Ext w w') (hk : k < n) (hT : T = w.heap.size)
    (hu : OwnI w' w.heap.size E u (rowI ll k)) : OwnRk (w'.setCell ⟨g, k, none⟩ u) B w'.heap.size E ER (.slice (some ⟨g, 0, none⟩) n cap) n ll (k + 1) := by
  obtain ⟨vs, h1, h2, h3, h4⟩ := h.outer
  subst hT
  have hg := h2 g rfl
  have hl : vs.length = n * 1 := h1.1
  have hus := (World.ownsRow.lt hu)
  have hne : u.ownBlock ≠ some g := by
    intro hc
    have := (hus g hc).1
    omega
  obtain ⟨au, cu, rfl, _⟩ := hu.shape
  refine ⟨Nat.le_trans h.base e.size, by simp, vs.set k _, (World.ownsRow.stored (own_ext h1 e) k _).1, fun g' hg' => Nat.lt_of_lt_of_le (h2 g' hg') e.size, fun i hi => ?_, fun i j x y hi hj hij hx hy => ?_⟩
  · by_cases hik : i = k
    · subst hik
      refine ⟨au, cu, by rw [List.getElem?_set_self (by omega)], ?_, fun g' hg' => (hus g' hg').2, ?_⟩
      · exact own_set_other (own_mono hu h.base) ⟨g, i, none⟩ _ hne
      · exact .inr hne
    · obtain ⟨ai, ci, g1, g2, g3, g4⟩ := h3 i (by omega)
      refine ⟨ai, ci, by rw [List.getElem?_set_ne (by omega)]; exact g1, ?_, fun g' hg' => Nat.lt_of_lt_of_le (g3 g' hg') e.size, g4⟩
      refine own_set_other (g2.ext e) ⟨g, k, none⟩ _ ?_
      rcases g4 with g4 | g4
      · rw [g4]; simp
      · exact g4
  · by_cases hik : i = k
    · subst hik
      rw [List.getElem?_set_self (by omega)] at hx
      rw [List.getElem?_set_ne (by omega)] at hy
      obtain ⟨aj, cj, k1, k2, k3, _⟩ := h3 j (by omega)
      rw [k1] at hy
      have hy' := Option.some.inj hy
      have hx' := Option.some.inj hx
      subst hy' hx'
      cases hb : (Value.slice au (rowI ll i).length cu).ownBlock with
      | none => exact .inl rfl
      | some gu =>
        refine .inr fun hc => ?_
        have := (hus gu hb).1
        have := k3 gu hc.symm
        omega
    · rw [List.getElem?_set_ne (by omega)] at hx
      by_cases hjk : j = k
      · subst hjk
        rw [List.getElem?_set_self (by omega)] at hy
        obtain ⟨ai, ci, k1, k2, k3, _⟩ := h3 i (by omega)
        rw [k1] at hx
        have hx' := Option.some.inj hx
        have hy' := Option.some.inj hy
        subst hy' hx'
        cases hb : (Value.slice ai (rowI ll i).length ci).ownBlock with
        | none => exact .inl rfl
        | some gi =>
          refine .inr fun hc => ?_
          have := k3 gi hb
          have := (hus gi hc.symm).1
          omega
      · rw [List.getElem?_set_ne (by omega)] at hy
        exact h4 i j x y (by omega) (by omega) hij hx hy

theorem OwnRk.start {w : World} {B n E ER : Nat} {v : Value} {xs : List Value} {ll : List (List Int)} (h : w.ownsRow B ER 1 v n xs) (hB : B ≤ w.heap.size) : OwnRk w B w.heap.size E ER v n ll 0 :=
  ⟨hB, Nat.le_refl _, xs, h, fun g hg => (World.ownsRow.lt h g hg).2, fun i hi => absurd hi (Nat.not_lt_zero _), fun i j x y hi => absurd hi (Nat.not_lt_zero _)⟩
theorem OwnR.mono {w : World} {B B' T T' E ER : Nat} {v : Value} {ll : List (List Int)} (h : OwnR w B T E ER v ll) (hB : B' ≤ B) (hT : T ≤ T') (hw : T' ≤ w.heap.size) : OwnR w B' T' E ER v ll := by
  obtain ⟨vs, h1, h2, h3, h4⟩ := OwnRk.outer h
  refine ⟨by have := OwnRk.base h; omega, hw, vs, own_mono h1 hB, fun g hg => Nat.lt_of_lt_of_le (h2 g hg) hT, fun i hi => ?_, h4⟩
  obtain ⟨a', c', e1, e2, e3, e4⟩ := h3 i hi
  exact ⟨a', c', e1, e2.mono hB, fun g hg => Nat.lt_of_lt_of_le (e3 g hg) hT, e4⟩

/-- Only blocks from B on and below T may have turned. -/
structure Touched (w w' : World) (B T : Nat) : Prop where
  os : w'.os = w.os
  tape : w'.tape = w.tape
  output : w'.output = w.output
  size : w.heap.size ≤ w'.heap.size
  block : ∀ k, k < w.heap.size → (k < B ∨ T ≤ k) → w'.heap[k]? = w.heap[k]?
theorem Touched.refl (w : World) (B T : Nat) : Touched w w B T := ⟨rfl, rfl, rfl, Nat.le_refl _, fun _ _ _ => rfl⟩
theorem Touched.trans {a b c : World} {B T : Nat} (h : Touched a b B T) (k : Touched b c B T) : Touched a c B T :=
  ⟨k.os.trans h.os, k.tape.trans h.tape, k.output.trans h.output, Nat.le_trans h.size k.size, fun i hi ho => (k.block i (Nat.lt_of_lt_of_le hi h.size) ho).trans (h.block i hi ho)⟩
theorem Touched.of_grown {w w' : World} {B T : Nat} {row : Option Nat} (h : w.grownBy w' row) (hr : ∀ g, row = some g → B ≤ g ∧ g < T) : Touched w w' B T :=
  ⟨h.os, h.tape, h.output, h.size, fun k hk ho => h.block k hk (fun e => by have := hr k e.symm; omega)⟩
theorem Touched.of_ext {w w' : World} {B T : Nat} (h : Ext w w') : Touched w w' B T := ⟨h.os, h.tape, h.output, h.size, fun k hk _ => h.block k hk⟩
theorem Touched.ext {w0 w w' : World} {B T : Nat} (h : Touched w w' B T) (hx : Ext w0 w) (hB : w0.heap.size ≤ B) : Ext w0 w' :=
  ⟨h.os.trans hx.os, h.tape.trans hx.tape, h.output.trans hx.output, Nat.le_trans hx.size h.size, fun k hk => (h.block k (Nat.lt_of_lt_of_le hk hx.size) (.inl (by omega))).trans (hx.block k hk)⟩
theorem own_untouched {w w' : World} {B T B' E s n : Nat} {v : Value} {xs : List Value} (h : w.ownsRow B' E s v n xs) (t : Touched w w' B T) (hne : ∀ g, v.ownBlock = some g → g < B ∨ T ≤ g) : w'.ownsRow B' E s v n xs := by
  refine ⟨h.1, ?_⟩
  rcases h.2 with hn | ⟨g, cap, cur, rfl, hb, hgg, rest⟩
  · exact .inl hn
  · refine .inr ⟨g, cap, cur, rfl, hb, ?_, rest⟩
    rw [t.block g (Array.getElem?_eq_some_iff.1 hgg).1 (hne g rfl)]
    exact hgg
theorem OwnR.untouched {w w' : World} {B T B' T' E ER : Nat} {v : Value} {ll : List (List Int)} (h : OwnR w B' T' E ER v ll) (t : Touched w w' B T) (hne : T' ≤ B ∨ T ≤ B') : OwnR w' B' T' E ER v ll := by
  obtain ⟨vs, h1, h2, h3, h4⟩ := OwnRk.outer h
  have far : ∀ g, B' ≤ g → g < T' → g < B ∨ T ≤ g := fun g _ _ => by omega
  refine ⟨OwnRk.base h, Nat.le_trans (OwnRk.top h) t.size, vs, own_untouched h1 t (fun g hg => far g (World.ownsRow.lt h1 g hg).1 (h2 g hg)), h2, fun i hi => ?_, h4⟩
  obtain ⟨a', c', e1, e2, e3, e4⟩ := h3 i hi
  exact ⟨a', c', e1, own_untouched e2 t (fun g hg => far g (World.ownsRow.lt e2 g hg).1 (e3 g hg)), e3, e4⟩

theorem Touched.setCell (w : World) (p : Addr) (u : Value) : Touched w (w.setCell p u) p.block (p.block + 1) :=
  ⟨rfl, rfl, rfl, by simp, fun k hk ho => Below.heap_setCell w p u k (by omega)⟩
theorem OwnR.setOld {w : World} {B T E ER : Nat} {v : Value} {ll : List (List Int)} (h : OwnR w B T E ER v ll) {p : Addr} (hp : p.block < B) (u : Value) : OwnR (w.setCell p u) B T E ER v ll :=
  h.untouched (Touched.setCell w p u) (.inr (by omega))

theorem OwnI.untouched {w w' : World} {B T B' E : Nat} {v : Value} {l : List Int} (h : OwnI w B' E v l) (t : Touched w w' B T) (hne : ∀ g, v.ownBlock = some g → g < B ∨ T ≤ g) : OwnI w' B' E v l := own_untouched h t hne

/-- A variable that holds a model. -/
def BoxM (w : World) (b : Nat) (st p q : Int) (v : Value) : Prop :=
  w.cell? ⟨b, 0, none⟩ = some (.int .i64 st) ∧ w.cell? ⟨b, 1, none⟩ = some (.int .i64 p) ∧ w.cell? ⟨b, 2, none⟩ = some (.int .i64 q) ∧ w.cell? ⟨b, 3, none⟩ = some v
theorem BoxM.ext {w w' : World} {b : Nat} {st p q : Int} {v : Value} (h : BoxM w b st p q v) (e : Ext w w') : BoxM w' b st p q v := by
  have hb : b < w.heap.size := lt_of_cell h.1
  exact ⟨e.cell' h.1 hb, e.cell' h.2.1 hb, e.cell' h.2.2.1 hb, e.cell' h.2.2.2 hb⟩
theorem BoxM.lt {w : World} {b : Nat} {st p q : Int} {v : Value} (h : BoxM w b st p q v) : b < w.heap.size := lt_of_cell h.1
theorem BoxM.out {w : World} {b : Nat} {st p q : Int} {v : Value} (h : BoxM w b st p q v) : w.cell? ⟨b, 0, none⟩ = some (.int .i64 st) ∧ w.cell? ⟨b, 1, none⟩ = some (.int .i64 p) ∧ w.cell? ⟨b, 2, none⟩ = some (.int .i64 q) ∧ w.cell? ⟨b, 3, none⟩ = some v := h
theorem BoxM.untouched {w w' : World} {b B T : Nat} {st p q : Int} {v : Value} (h : BoxM w b st p q v) (t : Touched w w' B T) (hb : b < B ∨ T ≤ b) : BoxM w' b st p q v := by
  have e := t.block b h.lt hb
  exact ⟨(World.cell?_of_block (a := ⟨b, 0, none⟩) e).trans h.1, (World.cell?_of_block (a := ⟨b, 1, none⟩) e).trans h.2.1, (World.cell?_of_block (a := ⟨b, 2, none⟩) e).trans h.2.2.1, (World.cell?_of_block (a := ⟨b, 3, none⟩) e).trans h.2.2.2⟩

end Go.Kt
namespace Go.Kt
set_option linter.unusedVariables false
open Go.RowKit

/-- How many programs a word takes, -1 if it is none. -/
def tk (x : Int) : Int := if x = 15 ∨ (16 ≤ x ∧ x ≤ 18) then 0 else if x = 30 ∨ (100 ≤ x ∧ x ≤ 115) then 2 else if 200 ≤ x ∧ x ≤ 215 then 1 else -1
/-- How many programs there are behind the first k words; none if one word finds too few, or is none. -/
def mny (l : List Int) : Nat → Option Nat
  | 0 => some 0
  | k + 1 => match mny l k with
    | none => none
    | some m => if tk (nth l k) < 0 ∨ (m : Int) < tk (nth l k) then none else some (m - (tk (nth l k)).toNat + 1)
theorem mny_good {l : List Int} {k m : Nat} (h : mny l k = some m) (hb : ¬ (tk (nth l k) < 0 ∨ (m : Int) < tk (nth l k))) : mny l (k + 1) = some (m - (tk (nth l k)).toNat + 1) := by
  simp only [mny, h, if_neg hb]
/-- A program is valid. -/
def pvB (l : List Int) : Bool := decide (1 ≤ l.length ∧ l.length ≤ 16) && decide (mny l l.length = some 1)
theorem pvB_end {l : List Int} {m : Nat} (h : 1 ≤ l.length ∧ l.length ≤ 16) (hm : mny l l.length = some m) : pvB l = (m == 1) := by
  unfold pvB; rw [decide_eq_true h, hm, Bool.eq_iff_iff]; simp
theorem own_trunc {w : World} {B E n cap g k : Nat} {xs : List Value} (h : w.ownsRow B E 1 (.slice (some ⟨g, 0, none⟩) n cap) n xs) (hk : k ≤ n) : w.ownsRow B E 1 (.slice (some ⟨g, 0, none⟩) k cap) k (xs.take k) := by
  have hl : xs.length = n * 1 := h.1
  rcases h.2 with ⟨hv, _⟩ | ⟨g', cap', cur, hv, hB, hg, hnc, hcm, hcs, htk⟩
  · simp at hv
  · obtain ⟨rfl, rfl⟩ : g = g' ∧ cap = cap' := by simpa using hv
    refine ⟨by rw [List.length_take]; omega, .inr ⟨g, cap, cur, rfl, hB, hg, by omega, hcm, hcs, ?_⟩⟩
    rw [← htk, List.take_take]
    congr 1
    omega
theorem own_capv {w : World} {B E n cap : Nat} {a : Option Addr} {xs : List Value} (h : w.ownsRow B E 1 (.slice a n cap) n xs) : n ≤ cap := by
  rcases h.2 with ⟨hv, _⟩ | ⟨g', cap', cur, hv, hB, hg, hnc, _⟩
  · have : a = none ∧ n = 0 ∧ cap = 0 := by simpa using hv
    omega
  · have : a = some ⟨g', 0, none⟩ ∧ cap = cap' := by simpa using hv
    omega
theorem own_shapev {w : World} {B E n : Nat} {v : Value} {xs : List Value} (h : w.ownsRow B E 1 v n xs) : ∃ a cap, v = .slice a n cap := by
  rcases h.2 with ⟨rfl, h0⟩ | ⟨g, cap, cur, rfl, _⟩
  · exact ⟨none, 0, by rw [h0]⟩
  · exact ⟨_, cap, rfl⟩
theorem own_headv {w : World} {B E n cap : Nat} {a : Option Addr} {xs : List Value} (h : w.ownsRow B E 1 (.slice a n cap) n xs) (hn : 0 < n) : ∃ g, a = some ⟨g, 0, none⟩ ∧ B ≤ g ∧ g < w.heap.size := by
  rcases h.2 with ⟨hv, h0⟩ | ⟨g, cap', cur, hv, hB, hg, _⟩
  · omega
  · have : a = some ⟨g, 0, none⟩ ∧ cap = cap' := by simpa using hv
    exact ⟨g, this.1, hB, (Array.getElem?_eq_some_iff.1 hg).1⟩
end Go.Kt
namespace Go.Kt
set_option linter.unusedVariables false
open Go.RowKit

def ptrV (g : Nat) : Value := .pointer (some ⟨g, 0, none⟩)
/-- The block g is the tree's; none of its blocks is one of X. -/
def TreeAt (w : World) (X : Nat → Prop) : Kt → Nat → Prop
  | .leaf s, g => ¬ X g ∧ w.cell? ⟨g, 0, none⟩ = some (.int .i64 s) ∧ w.cell? ⟨g, 1, none⟩ = some (.slice none 0 0)
  | .star a, g => ¬ X g ∧ w.cell? ⟨g, 0, none⟩ = some (.int .i64 21) ∧ ∃ h c ga, w.cell? ⟨g, 1, none⟩ = some (.slice (some ⟨h, 0, none⟩) 1 c) ∧ ¬ X h ∧ w.cell? ⟨h, 0, none⟩ = some (ptrV ga) ∧ TreeAt w X a ga
  | .two s a b, g => ¬ X g ∧ w.cell? ⟨g, 0, none⟩ = some (.int .i64 s) ∧ ∃ h c ga gb, w.cell? ⟨g, 1, none⟩ = some (.slice (some ⟨h, 0, none⟩) 2 c) ∧ ¬ X h ∧ w.cell? ⟨h, 0, none⟩ = some (ptrV ga) ∧ w.cell? ⟨h, 1, none⟩ = some (ptrV gb) ∧ TreeAt w X a ga ∧ TreeAt w X b gb
theorem TreeAt.keep {w w' : World} {X X' : Nat → Prop} (hb : ∀ k, k < w.heap.size → ¬ X k → w'.heap[k]? = w.heap[k]?) (hX : ∀ k, k < w.heap.size → X' k → X k) : ∀ (t : Kt) (g : Nat), TreeAt w X t g → TreeAt w' X' t g := by
  have cc : ∀ b o v, ¬ X b → w.cell? ⟨b, o, none⟩ = some v → w'.cell? ⟨b, o, none⟩ = some v := fun b o v hx hv =>
    (World.cell?_of_block (a := ⟨b, o, none⟩) (hb b (lt_of_cell hv) hx)).trans hv
  intro t
  induction t with
  | leaf s =>
    rintro g ⟨h0, h1, h2⟩
    exact ⟨fun h => h0 (hX g (lt_of_cell h1) h), cc _ _ _ h0 h1, cc _ _ _ h0 h2⟩
  | star a ih =>
    rintro g ⟨h0, h1, h, c, ga, h2, h3, h4, h5⟩
    exact ⟨fun k => h0 (hX g (lt_of_cell h1) k), cc _ _ _ h0 h1, h, c, ga, cc _ _ _ h0 h2, fun k => h3 (hX h (lt_of_cell h4) k), cc _ _ _ h3 h4, ih ga h5⟩
  | two s a b iha ihb =>
    rintro g ⟨h0, h1, h, c, ga, gb, h2, h3, h4, h5, h6, h7⟩
    exact ⟨fun k => h0 (hX g (lt_of_cell h1) k), cc _ _ _ h0 h1, h, c, ga, gb, cc _ _ _ h0 h2, fun k => h3 (hX h (lt_of_cell h4) k), cc _ _ _ h3 h4, cc _ _ _ h3 h5, iha ga h6, ihb gb h7⟩
theorem TreeAt.ext {w w' : World} {X : Nat → Prop} {t : Kt} {g : Nat} (h : TreeAt w X t g) (e : Ext w w') : TreeAt w' X t g := TreeAt.keep (fun k hk _ => e.block k hk) (fun k _ hx => hx) t g h
theorem TreeAt.lt {w : World} {X : Nat → Prop} {t : Kt} {g : Nat} (h : TreeAt w X t g) : g < w.heap.size := by
  cases t with
  | leaf s => exact lt_of_cell h.2.1
  | star a => exact lt_of_cell h.2.1
  | two s a b => exact lt_of_cell h.2.1
theorem TreeAt.free {w : World} {X : Nat → Prop} {t : Kt} {g : Nat} (h : TreeAt w X t g) : TreeAt w (fun _ => False) t g := TreeAt.keep (fun k hk _ => rfl) (fun k _ hx => hx.elim) t g h
/-- The step. -/
def Kt.top : Kt → Int
  | .leaf s => s
  | .star _ => 21
  | .two s _ _ => s
theorem TreeAt.top {w : World} {X : Nat → Prop} {t : Kt} {g : Nat} (h : TreeAt w X t g) : w.cell? ⟨g, 0, none⟩ = some (.int .i64 t.top) := by
  cases t with
  | leaf s => exact h.2.1
  | star a => exact h.2.1
  | two s a b => exact h.2.1

/-- A stack of trees of the call's own. -/
def StackT (w : World) (B E : Nat) (v : Value) (ts : List Kt) (gs : List Nat) : Prop :=
  w.ownsRow B E 1 v ts.length (gs.map ptrV) ∧ ∀ (i : Nat) (t : Kt) (g : Nat), ts[i]? = some t → gs[i]? = some g → TreeAt w (fun k => v.ownBlock = some k) t g
theorem StackT.len {w : World} {B E : Nat} {v : Value} {ts : List Kt} {gs : List Nat} (h : StackT w B E v ts gs) : gs.length = ts.length := by have := h.1.1; simpa using this
theorem StackT.ext {w w' : World} {B E : Nat} {v : Value} {ts : List Kt} {gs : List Nat} (h : StackT w B E v ts gs) (e : Ext w w') : StackT w' B E v ts gs :=
  ⟨own_ext h.1 e, fun i t g ht hg => (h.2 i t g ht hg).ext e⟩
theorem StackT.nil (w : World) (B E : Nat) : StackT w B E (.slice none 0 0) [] [] := ⟨⟨rfl, .inl ⟨rfl, rfl⟩⟩, fun i t g ht => by simp at ht⟩
theorem StackT.shape {w : World} {B E : Nat} {v : Value} {ts : List Kt} {gs : List Nat} (h : StackT w B E v ts gs) :
    ∃ a cap, v = .slice a ts.length cap ∧ ts.length ≤ cap ∧ (0 < ts.length → ∃ g, a = some ⟨g, 0, none⟩ ∧ B ≤ g ∧ g < w.heap.size) := by
  obtain ⟨a, cap, rfl⟩ := own_shapev h.1
  exact ⟨a, cap, rfl, own_capv h.1, fun hn => own_headv h.1 hn⟩
theorem StackT.parts {w : World} {B E : Nat} {v : Value} {ts : List Kt} {gs : List Nat} (h : StackT w B E v ts gs) :
    (v = .slice none 0 0 ∧ ts.length = 0) ∨ ∃ r cap, v = .slice (some ⟨r, 0, none⟩) ts.length cap ∧ ts.length ≤ cap ∧ B ≤ r ∧ r < w.heap.size := by
  rcases h.1.2 with ⟨hv, h0⟩ | ⟨g, cap, cur, rfl, hB, hg, hnc, _⟩
  · exact .inl ⟨hv, h0⟩
  · exact .inr ⟨g, cap, rfl, hnc, hB, (Array.getElem?_eq_some_iff.1 hg).1⟩
theorem StackT.cell {w : World} {B E cap r : Nat} {ts : List Kt} {gs : List Nat} (h : StackT w B E (.slice (some ⟨r, 0, none⟩) ts.length cap) ts gs) (i : Nat) (hi : i < ts.length) :
    ∃ g, gs[i]? = some g ∧ w.cell? ⟨r, i, none⟩ = some (ptrV g) := by
  have hl := h.len
  refine ⟨gs[i]'(by omega), List.getElem?_eq_getElem (by omega), ?_⟩
  rw [World.ownsRow.cellAt h.1 i (by omega), List.getElem?_map, List.getElem?_eq_getElem (by omega)]; rfl
theorem StackT.frz {w : World} {B E cap r : Nat} {ts : List Kt} {gs : List Nat} (h : StackT w B E (.slice (some ⟨r, 0, none⟩) ts.length cap) ts gs) (i : Nat) : w.frozen? ⟨r, i, none⟩ = false := World.ownsRow.frozenAt h.1 i
/-- The stack behind a push at the end. -/
theorem StackT.push {w w' : World} {B E : Nat} {v v' : Value} {ts : List Kt} {gs : List Nat} {t : Kt} {g : Nat} (h : StackT w B E v ts gs) (hg : w.grownBy w' v.ownBlock) (ho : w'.ownsRow B E 1 v' (ts.length + 1) (gs.map ptrV ++ [ptrV g]))
    (hw : v'.ownBlock = v.ownBlock ∨ v'.ownBlock = some w.heap.size) (ht : TreeAt w (fun k => v.ownBlock = some k) t g) : StackT w' B E v' (ts ++ [t]) (gs ++ [g]) := by
  have hl := h.len
  have hk : ∀ (t : Kt) (g : Nat), TreeAt w (fun k => v.ownBlock = some k) t g → TreeAt w' (fun k => v'.ownBlock = some k) t g :=
    TreeAt.keep (fun k hk hx => hg.block k hk (fun e => hx e.symm)) (fun k hk hx => by
      rcases hw with h | h
      · rw [← h]; exact hx
      · rw [h] at hx; have := Option.some.inj hx; omega)
  refine ⟨by rw [List.length_append, List.map_append]; exact ho, fun i u d hu hd => ?_⟩
  rcases Nat.lt_or_ge i ts.length with hi | hi
  · rw [List.getElem?_append_left hi] at hu
    rw [List.getElem?_append_left (by omega)] at hd
    exact hk _ _ (h.2 i u d hu hd)
  · rw [List.getElem?_append_right hi] at hu
    rw [List.getElem?_append_right (by omega)] at hd
    rw [hl] at hd
    by_cases hz : i - ts.length = 0
    · rw [hz] at hu hd
      simp at hu hd
      subst hu hd
      exact hk _ _ ht
    · rw [List.getElem?_eq_none (by simp; omega)] at hu; cases hu
/-- The stack behind the store of a tree in the place of some at the end. -/
theorem StackT.put {w : World} {B E r cap : Nat} {us vs : List Kt} {gs : List Nat} {p t : Kt} {g : Nat} (h : StackT w B E (.slice (some ⟨r, 0, none⟩) (us ++ p :: vs).length cap) (us ++ p :: vs) gs) (ht : TreeAt w (fun k => k = r) t g) :
    StackT (w.setCell ⟨r, us.length, none⟩ (ptrV g)) B E (.slice (some ⟨r, 0, none⟩) (us.length + 1) cap) (us ++ [t]) (gs.take us.length ++ [g]) := by
  have hl := h.len
  have hlen : us.length < gs.length := by rw [hl]; simp
  have h1 := (World.ownsRow.stored h.1 us.length (ptrV g)).1
  have h2 := own_trunc (k := us.length + 1) h1 (by simp)
  have hk : ∀ (t : Kt) (g' : Nat), TreeAt w (fun k => k = r) t g' → TreeAt (w.setCell ⟨r, us.length, none⟩ (ptrV g)) (fun k => (Value.slice (some ⟨r, 0, none⟩) (us.length + 1) cap).ownBlock = some k) t g' := by
    intro t g'
    refine TreeAt.keep (fun k hk hx => heap_setCell_other w ⟨r, us.length, none⟩ k _ hx) (fun k hk hx => ?_) t g'
    simp [Value.ownBlock] at hx
    exact hx.symm
  refine ⟨?_, fun i u d hu hd => ?_⟩
  · have e : List.map ptrV (gs.take us.length ++ [g]) = ((List.map ptrV gs).set us.length (ptrV g)).take (us.length + 1) := by
      apply List.ext_getElem?
      intro i
      simp only [List.map_append, List.map_take, List.map_cons, List.map_nil, List.getElem?_take, List.getElem?_set, List.length_map]
      rcases Nat.lt_trichotomy i us.length with hi | hi | hi
      · rw [List.getElem?_append_left (by simp; omega), List.getElem?_take, if_pos hi, if_pos (by omega), if_neg (by omega)]
      · subst hi
        rw [List.getElem?_append_right (by simp; omega)]
        simp [hlen, Nat.min_eq_left (Nat.le_of_lt hlen)]
      · rw [if_neg (by omega), List.getElem?_eq_none (by simp; omega)]
    rw [e, show (us ++ [t]).length = us.length + 1 by simp]
    exact h2
  · have hkeep : ∀ (i : Nat) (u : Kt) (d : Nat), i < us.length → us[i]? = some u → gs[i]? = some d → TreeAt w (fun k => k = r) u d := fun i u d hi hu hd => by
      have := h.2 i u d (by rw [List.getElem?_append_left hi]; exact hu) hd
      exact TreeAt.keep (fun k hk _ => rfl) (fun k _ hx => by simp [Value.ownBlock]; exact hx.symm) u d this
    rcases Nat.lt_or_ge i us.length with hi | hi
    · rw [List.getElem?_append_left hi] at hu
      rw [List.getElem?_append_left (by simp; omega), List.getElem?_take, if_pos hi] at hd
      exact hk _ _ (hkeep i u d hi hu hd)
    · rw [List.getElem?_append_right hi] at hu
      rw [List.getElem?_append_right (by simp; omega)] at hd
      by_cases hz : i - us.length = 0
      · rw [hz] at hu
        rw [show i - (List.take us.length gs).length = 0 by simp; omega] at hd
        simp at hu hd
        subst hu hd
        exact hk _ _ ht
      · rw [List.getElem?_eq_none (by simp; omega)] at hu; cases hu
/-- The same, the store told ahead of two new blocks. -/
theorem StackT.put' {w : World} {B E r cap : Nat} {us vs : List Kt} {gs : List Nat} {p t : Kt} {g : Nat} {o1 o2 : Obj} (h : StackT ((w.alloc o1).alloc o2) B E (.slice (some ⟨r, 0, none⟩) (us ++ p :: vs).length cap) (us ++ p :: vs) gs) (hr : r < w.heap.size) (ht : TreeAt ((w.alloc o1).alloc o2) (fun k => k = r) t g) :
    StackT (((w.setCell ⟨r, us.length, none⟩ (ptrV g)).alloc o1).alloc o2) B E (.slice (some ⟨r, 0, none⟩) (us.length + 1) cap) (us ++ [t]) (gs.take us.length ++ [g]) := by
  have := StackT.put (vs := vs) h ht
  rw [World.setCell_alloc_past _ _ _ _ (by simp; omega), World.setCell_alloc_past _ _ _ _ hr] at this
  exact this
/-- The trees at the end of the stack, clear of its row. -/
theorem StackT.tree {w : World} {B E r cap n : Nat} {ts : List Kt} {gs : List Nat} (h : StackT w B E (.slice (some ⟨r, 0, none⟩) n cap) ts gs) {i : Nat} {t : Kt} {g : Nat} (ht : ts[i]? = some t) (hg : gs[i]? = some g) : TreeAt w (fun k => k = r) t g :=
  TreeAt.keep (fun k hk _ => rfl) (fun k _ hx => by simp [Value.ownBlock]; exact hx.symm) t g (h.2 i t g ht hg)
/-- A tree clear of what is not there yet. -/
theorem TreeAt.old {w : World} {t : Kt} {g r : Nat} (h : TreeAt w (fun _ => False) t g) (hr : w.heap.size ≤ r) : TreeAt w (fun k => k = r) t g :=
  TreeAt.keep (fun k hk _ => rfl) (fun k hk hx => by have hx : k = r := hx; omega) t g h

/-- A leaf just made is clear of the stack. -/
theorem StackT.leaf {w w1 : World} {B E : Nat} {v : Value} {ts : List Kt} {gs : List Nat} (h : StackT w B E v ts gs) (hx : Ext w w1) (s : Int) (ET E2 : Nat) :
    TreeAt ((w1.alloc (.cells #[.int .i64 s, .slice none 0 0] ET)).alloc (.cells #[ptrV w1.heap.size] E2)) (fun k => v.ownBlock = some k) (.leaf s) w1.heap.size := by
  refine ⟨fun h' => ?_, by simp [go_sem], by simp [go_sem]⟩
  have := (World.ownsRow.lt h.1 _ h').2
  have := hx.size
  omega
/-- Nodes just made. -/
theorem TreeAt.mkStar {w1 : World} {h c ga r : Nat} {a : Kt} (hc : w1.cell? ⟨h, 0, none⟩ = some (ptrV ga)) (hh : h ≠ r) (ht : TreeAt w1 (fun k => k = r) a ga) (hr : r < w1.heap.size) (ET : Nat) (o : Obj) :
    TreeAt ((w1.alloc (.cells #[.int .i64 21, .slice (some ⟨h, 0, none⟩) 1 c] ET)).alloc o) (fun k => k = r) (.star a) w1.heap.size := by
  have hx : Ext w1 ((w1.alloc (.cells #[.int .i64 21, .slice (some ⟨h, 0, none⟩) 1 c] ET)).alloc o) := ((Ext.refl _).alloc _).alloc _
  exact ⟨fun e => by have e : w1.heap.size = r := e; omega, by simp [go_sem], h, c, ga, by simp [go_sem], hh, hx.cell' hc (lt_of_cell hc), ht.ext hx⟩
theorem TreeAt.mkTwo {w1 : World} {h c ga gb r : Nat} {a b : Kt} {s : Int} (hc : w1.cell? ⟨h, 0, none⟩ = some (ptrV ga)) (hd : w1.cell? ⟨h, 1, none⟩ = some (ptrV gb)) (hh : h ≠ r) (ht : TreeAt w1 (fun k => k = r) a ga) (hu : TreeAt w1 (fun k => k = r) b gb) (hr : r < w1.heap.size) (ET : Nat) (o : Obj) :
    TreeAt ((w1.alloc (.cells #[.int .i64 s, .slice (some ⟨h, 0, none⟩) 2 c] ET)).alloc o) (fun k => k = r) (.two s a b) w1.heap.size := by
  have hx : Ext w1 ((w1.alloc (.cells #[.int .i64 s, .slice (some ⟨h, 0, none⟩) 2 c] ET)).alloc o) := ((Ext.refl _).alloc _).alloc _
  exact ⟨fun e => by have e : w1.heap.size = r := e; omega, by simp [go_sem], h, c, ga, gb, by simp [go_sem], hh, hx.cell' hc (lt_of_cell hc), hx.cell' hd (lt_of_cell hd), ht.ext hx, hu.ext hx⟩
theorem run_append_where {P : Program} {w : World} (base : Nat) (t ty e : TypeId) (i : TypeInfo) (z : Value) (by' : Nat) (ht : P.underlying t = some (.slice e)) (hi : P.info? e = some i) (hz : i.zero = some z) (hsize : i.size = 1) (hby : i.bytes = by')
    (v : Value) (n : Nat) (xs : List Value) (hown : w.ownsRow base e 1 v n xs) (ad : Addr) (c : Nat) (u : Value) (hc : w.cell? ad = some u) (hu : u.oneCell' = true)
    (h63 : n + 1 ≤ maxLen) (hbytes : (n + 1) * by' ≤ 140737488355328) (v' : Value) (w' : World)
    (hr : (Builtin.append_ #[t, t] ty #[v, .slice (some ad) 1 c]).run P w = .ok v' w') : v'.ownBlock = v.ownBlock ∨ v'.ownBlock = some w.heap.size := by
  have hnews : ∀ j x, ([u] : List Value)[j]? = some x → w.cell? (ad.add j) = some x := fun j x hj => by
    match j, hj with
    | 0, hj => simp at hj; subst hj; simpa [Addr.add] using hc
    | j + 1, hj => simp at hj
  have h1 : ∀ x ∈ ([u] : List Value), x.oneCell' = true := fun x hx => by simp at hx; subst hx; exact hu
  have hl : ([u] : List Value).length = 1 * i.size := by rw [hsize]; rfl
  simp only [maxLen] at h63
  subst hby
  rcases hown.2 with ⟨rfl, rfl⟩ | ⟨g, cap, cur, rfl, hbg, hg, hnc, hcm, hcs, htake⟩
  · have := run_append_nil (P := P) w t ty e i z ht hi hz ad 1 c [u] hl hnews (by omega) (by omega) (by omega)
    rw [this] at hr
    simp only [Result.ok.injEq] at hr
    rw [← hr.1]
    exact .inr rfl
  · by_cases hroom : n + 1 ≤ cap
    · have := run_append_room (P := P) w t ty e i ht hi g n cap cur hg ad 1 c [u] hl hnews h1 hroom (by rw [hsize, hcs]; simp; omega)
      rw [this] at hr
      simp only [Result.ok.injEq] at hr
      rw [← hr.1]
      exact .inl rfl
    · have holds : ∀ j x, xs[j]? = some x → w.cell? ((⟨g, 0, none⟩ : Addr).add j) = some x := hown.cells (g := g) rfl
      have := run_append_grow (P := P) w t ty e i z ht hi hz ⟨g, 0, none⟩ n cap xs (by rw [hsize]; exact hown.1) holds ad 1 c [u] hl hnews (by omega) (by omega) (growslice_fits (by omega) hbytes)
      rw [this] at hr
      simp only [Result.ok.injEq] at hr
      rw [← hr.1]
      exact .inr rfl
/-- append of one value of one cell: and where the answer lies. -/
theorem want_append_at {P : Program} {ops : Array Oper} {rest : List Oper} {o : Oper} {a : Act} {Q : Exit → Act → World → Prop} {w : World} (hw : Region.wanted o (yielded ops a.tmps) = true) (s x : Operand) (t : TypeId)
    (ho : o.op = .call { callee := .builtin .append, args := #[s, x], argTypes := #[t, t] }) (B E : Nat) (z : Value) (by' : Nat) (ht : P.underlying t = some (.slice E))
    (hinfo : (P.info? E).map (fun i => (i.zero, i.size, i.bytes)) = some (some z, 1, by')) (hz : z.cells.size = 1) (hby : by' ≤ 100)
    (v : Value) (n : Nat) (xs : List Value) (hs : a.eval s = v) (hown : w.ownsRow B E 1 v n xs) (g : Nat) (u : Value) (hx : a.eval x = .slice (some ⟨g, 0, none⟩) 1 1) (hcell : w.cell? ⟨g, 0, none⟩ = some u) (hu : u.oneCell' = true)
    (hlen : n + 1 ≤ 1099511627776) (hB : B ≤ w.heap.size)
    (h : ∀ v' w', w'.ownsRow B E 1 v' (n + 1) (xs ++ [u]) → w.grownBy w' v.ownBlock → (v'.ownBlock = v.ownBlock ∨ v'.ownBlock = some w.heap.size) → wpList P ops Q rest (a.put o.dst v') w') : wpList P ops Q (o :: rest) a w := by
  obtain ⟨i, hi, hz0, hz1, hz2⟩ := info_parts hinfo
  refine BigFrame.wpList_want hw fun K hK' => ?_
  have hby2 : (n + 1) * by' ≤ 140737488355328 := Nat.le_trans (Nat.mul_le_mul hlen hby) (by decide)
  have hnews : ∀ j u', ([u] : List Value)[j]? = some u' → w.cell? ((⟨g, 0, none⟩ : Addr).add j) = some u' := fun j u' hj => by
    match j, hj with
    | 0, hj => simp at hj; subst hj; simpa [Addr.add] using hcell
    | j + 1, hj => simp at hj
  obtain ⟨v', w', hr, h2, h3, h4⟩ := run_append_own (P := P) w B t o.type E i z 1 by' ht hi hz0 hz1 hz2 hz (by decide) v n xs hown ⟨g, 0, none⟩ 1 1 [u] rfl hnews (fun u' hu' => by simp at hu'; subst hu'; exact hu) (by unfold maxLen; omega) hby2 hB
  have hwh := run_append_where (P := P) B t o.type E i z by' ht hi hz0 hz1 hz2 v n xs hown ⟨g, 0, none⟩ 1 u hcell hu (by unfold maxLen; omega) hby2 v' w' hr
  unfold Oper.wp execOp
  simp only [ho, resolve, invoke, builtin, Sem.run_bind, Sem.run_pure, Result.andThen_ok, List.map_toArray, List.map_cons, List.map_nil, hs, hx, hr]
  exact hK' _ _ (h v' w' h2 h3 hwh)
/-- append of some values of one cell to nil. -/
theorem want_append_fresh {P : Program} {ops : Array Oper} {rest : List Oper} {o : Oper} {a : Act} {Q : Exit → Act → World → Prop} {w : World} (hw : Region.wanted o (yielded ops a.tmps) = true) (s x : Operand) (t : TypeId)
    (ho : o.op = .call { callee := .builtin .append, args := #[s, x], argTypes := #[t, t] }) (E : Nat) (z : Value) (by' : Nat) (ht : P.underlying t = some (.slice E))
    (hinfo : (P.info? E).map (fun i => (i.zero, i.size, i.bytes)) = some (some z, 1, by')) (hz : z.cells.size = 1) (hby : by' ≤ 100)
    (hs : a.eval s = .slice none 0 0) (ax : Option Addr) (m cx : Nat) (news : List Value) (hx : a.eval x = .slice ax m cx) (hl : news.length = m)
    (hi : 0 < m → ∃ b off, ax = some ⟨b, off, none⟩ ∧ ∀ j u, news[j]? = some u → w.cell? ⟨b, off + j, none⟩ = some u) (h1 : ∀ u ∈ news, u.oneCell' = true) (hlen : m ≤ 1099511627776)
    (h : ∀ v' w', w'.ownsRow w.heap.size E 1 v' m news → Ext w w' → (m = 0 → v' = .slice none 0 0) → wpList P ops Q rest (a.put o.dst v') w') : wpList P ops Q (o :: rest) a w := by
  refine BigFrame.wpList_want hw fun K hK' => ?_
  by_cases hm : m = 0
  · subst hm
    have hn : news = [] := List.eq_nil_of_length_eq_zero hl
    subst hn
    obtain ⟨i, hi', hz0, hz1, hz2⟩ := info_parts hinfo
    have hrun := run_append_none0 (P := P) (w := w) w.heap.size t o.type E i 1 ht hi' _ 0 [] (World.ownsRow_nil w w.heap.size E 1) ax cx
    unfold Oper.wp execOp
    simp only [ho, resolve, invoke, builtin, Sem.run_bind, Sem.run_pure, Result.andThen_ok, List.map_toArray, List.map_cons, List.map_nil, hs, hx, hrun]
    exact hK' _ _ (h _ w (World.ownsRow_nil w w.heap.size E 1) (Ext.refl w) fun _ => rfl)
  · refine wp_append_of s x t ho w.heap.size E 1 by' z ht hinfo hz (by decide) hby (.slice none 0 0) 0 [] hs (World.ownsRow_nil w w.heap.size E 1) ax m cx news hx (by omega) hi h1 (by omega) (Nat.le_refl _) fun v' w' h2 h3 => hK' _ _ (h v' w' ?_ ?_ fun e => absurd e hm)
    · simpa using h2
    · exact Ext.row (Ext.refl w) h3 (fun k hk => by simp [Value.ownBlock] at hk)
end Go.Kt
namespace Go.Kt
set_option linter.unusedVariables false

/-- The row of a state at a test. -/
def testRow (p q : Int) (t st k : Nat) : Nat := if (tsTo p q t st).testBit k then pow2 k else 0
def testL (p q : Int) (t st k : Nat) : List Int := (List.range k).map fun i => ((testRow p q t st i : Nat) : Int)
theorem testL_length (p q : Int) (t st k : Nat) : (testL p q t st k).length = k := by simp [testL]
theorem testL_get (p q : Int) (t st k i : Nat) (h : i < k) : nth (testL p q t st k) i = ((testRow p q t st i : Nat) : Int) := by
  rw [nth_getElem _ _ (by rw [testL_length]; exact h)]; simp [testL]
theorem testRow_lt (p q : Int) {t st k : Nat} (hk : k < st) : testRow p q t st k < 2 ^ st := by
  unfold testRow
  split
  · exact pow2_lt_two hk
  · exact Nat.two_pow_pos st
theorem Rel.test (p q : Int) {t st : Nat} (h : st ≤ 31) : Rel st (testL p q t st st) := by
  refine ⟨testL_length _ _ _ _ _, h, ?_, ?_⟩
  · exact sets_of_cast (fun i => testRow p q t st i) (fun i hi => testL_get p q t st st i (by rw [testL_length] at hi; exact hi)) fun i hi => two_pow_31 h (testRow_lt p q (by rw [testL_length] at hi; exact hi))
  · intro i hi
    rw [natAt_cast (testL_get p q t st st i hi)]
    exact testRow_lt p q hi
/-- The rows of an expression. -/
def Kt.rows (p q : Int) (st : Nat) (ll : List (List Int)) : Kt → List Int
  | .leaf s => if s ≤ 15 then testL p q s.toNat st st else rowI ll (s.toNat - 16)
  | .star a => starTo (Kt.rows p q st ll a) (Kt.rows p q st ll a).length
  | .two s a b => if s = 20 then plusTo (Kt.rows p q st ll a) (Kt.rows p q st ll b) (Kt.rows p q st ll a).length else thenTo (Kt.rows p q st ll a) (Kt.rows p q st ll b) (Kt.rows p q st ll a).length
theorem Kt.rows_rel (p q : Int) (st : Nat) (ll : List (List Int)) (hst : st ≤ 31) (hll : ∀ i, i < 3 → Rel st (rowI ll i)) : ∀ t : Kt, t.Good → Rel st (t.rows p q st ll)
  | .leaf s, h => by
    have h : 0 ≤ s ∧ s ≤ 18 := h
    simp only [Kt.rows]
    split
    · exact Rel.test p q hst
    · exact hll _ (by omega)
  | .star a, h => (a.rows_rel p q st ll hst hll h).starTo
  | .two s a b, h => by
    simp only [Kt.rows]
    split
    · exact (a.rows_rel p q st ll hst hll h.2.1).plusTo (b.rows_rel p q st ll hst hll h.2.2)
    · exact (a.rows_rel p q st ll hst hll h.2.1).thenTo (b.rows_rel p q st ll hst hll h.2.2)

end Go.Kt
namespace Go.Kt
set_option linter.unusedVariables false
open Go.RowKit

theorem own_types_apart {w : World} {B B' E E' s s' n n' : Nat} {v u : Value} {xs ys : List Value} (h : w.ownsRow B E s v n xs) (k : w.ownsRow B' E' s' u n' ys) (hE : E ≠ E') : v.ownBlock = none ∨ v.ownBlock ≠ u.ownBlock := by
  rcases h.2 with ⟨rfl, _⟩ | ⟨g, cap, cur, rfl, _, hgg, _⟩
  · exact .inl rfl
  · rcases k.2 with ⟨rfl, _⟩ | ⟨g', cap', cur', rfl, _, hgg', _⟩
    · right; simp [Value.ownBlock]
    · right
      intro he
      simp only [Value.ownBlock, Option.some.injEq] at he
      subst he
      rw [hgg] at hgg'
      simp only [Option.some.injEq, Obj.cells.injEq] at hgg'
      exact hE hgg'.2.1
theorem rowI_append_old (ll : List (List Int)) (r : List Int) (i : Nat) (h : i < ll.length) : rowI (ll ++ [r]) i = rowI ll i := by
  simp [rowI, List.getD, List.getElem?_append_left h]
theorem rowI_append_new (ll : List (List Int)) (r : List Int) : rowI (ll ++ [r]) ll.length = r := by
  simp [rowI, List.getD]

theorem OwnR.nil (w : World) (E ER : Nat) : OwnR w w.heap.size w.heap.size E ER (.slice none 0 0) [] :=
  ⟨Nat.le_refl _, Nat.le_refl _, [], ⟨rfl, .inl ⟨rfl, rfl⟩⟩, fun g hg => by simp [Value.ownBlock] at hg, fun i hi => absurd hi (Nat.not_lt_zero _), fun i j x y hi => absurd hi (Nat.not_lt_zero _)⟩

theorem OwnR.append {w : World} {B T E ER : Nat} {v : Value} {ll : List (List Int)} (hE : E ≠ ER) (h : OwnR w B T E ER v ll) :
    ∃ vs, w.ownsRow B ER 1 v ll.length vs ∧ ∀ w' v' u r, OwnI w T E u r → w'.ownsRow B ER 1 v' (ll.length + 1) (vs ++ [u]) → w.grownBy w' v.ownBlock → OwnR w' B w'.heap.size E ER v' (ll ++ [r]) := by
  obtain ⟨vs, h1, h2, h3, h4⟩ := OwnRk.outer h
  refine ⟨vs, h1, fun w' v' u r hu h1' hg => ?_⟩
  have hvl : vs.length = ll.length := by have := h1.1; omega
  have hll : (ll ++ [r]).length = ll.length + 1 := by simp
  have hus := World.ownsRow.lt hu
  have huv : u.ownBlock = none ∨ u.ownBlock ≠ v.ownBlock := by
    cases hb : u.ownBlock with
    | none => exact .inl rfl
    | some g =>
      right; intro he
      have := (hus g hb).1
      have := h2 g he.symm
      omega
  have hu' : OwnI w' T E u r := World.ownsRow.kept hu hg huv
  obtain ⟨au, cu, rfl, _⟩ := hu.shape
  refine ⟨Nat.le_trans (Nat.le_trans (OwnRk.base h) (OwnRk.top h)) hg.size, Nat.le_refl _, vs ++ [.slice au r.length cu], by rw [hll]; exact h1', fun g hg' => (World.ownsRow.lt h1' g hg').2, fun i hi => ?_, fun i j x y hi hj hij hx hy => ?_⟩
  · rw [hll] at hi
    by_cases hil : i < ll.length
    · obtain ⟨ai, ci, e1, e2, e3, e4⟩ := h3 i hil
      rw [rowI_append_old ll r i hil]
      have e2' : OwnI w' B E (.slice ai (rowI ll i).length ci) (rowI ll i) := World.ownsRow.kept e2 hg e4
      refine ⟨ai, ci, by rw [List.getElem?_append_left (by omega)]; exact e1, e2', fun g hg' => Nat.lt_of_lt_of_le (Nat.lt_of_lt_of_le (e3 g hg') (OwnRk.top h)) hg.size, own_types_apart e2' h1' hE⟩
    · obtain rfl : i = ll.length := by omega
      rw [rowI_append_new]
      have e2' : OwnI w' B E (.slice au r.length cu) r := own_mono hu' (OwnRk.base h)
      refine ⟨au, cu, by rw [← hvl]; simp, e2', fun g hg' => (World.ownsRow.lt e2' g hg').2, own_types_apart e2' h1' hE⟩
  · rw [hll] at hi hj
    by_cases hil : i < ll.length
    · rw [List.getElem?_append_left (by omega)] at hx
      by_cases hjl : j < ll.length
      · rw [List.getElem?_append_left (by omega)] at hy
        exact h4 i j x y hil hjl hij hx hy
      · obtain rfl : j = ll.length := by omega
        rw [← hvl] at hy
        simp only [List.getElem?_concat_length, Option.some.injEq] at hy
        subst hy
        obtain ⟨ai, ci, e1, e2, e3, e4⟩ := h3 i hil
        rw [e1] at hx
        simp only [Option.some.injEq] at hx
        subst hx
        cases hb : (Value.slice ai (rowI ll i).length ci).ownBlock with
        | none => exact .inl rfl
        | some g =>
          right; intro he
          have := e3 g hb
          have := (hus g he.symm).1
          omega
    · obtain rfl : i = ll.length := by omega
      have hjl : j < ll.length := by omega
      rw [List.getElem?_append_left (by omega)] at hy
      rw [← hvl] at hx
      simp only [List.getElem?_concat_length, Option.some.injEq] at hx
      subst hx
      obtain ⟨aj, cj, e1, e2, e3, e4⟩ := h3 j hjl
      rw [e1] at hy
      simp only [Option.some.injEq] at hy
      subst hy
      cases hb : (Value.slice au r.length cu).ownBlock with
      | none => exact .inl rfl
      | some g =>
        right; intro he
        have := e3 g he.symm
        have := (hus g hb).1
        omega

theorem OwnR.grown {w0 w w' : World} {T E ER : Nat} {v : Value} {ll : List (List Int)} (h : OwnR w w0.heap.size T E ER v ll) (hx : Ext w0 w) (hg : w.grownBy w' v.ownBlock) : Ext w0 w' := by
  obtain ⟨vs, h1, h2, _⟩ := OwnRk.outer h
  exact (Touched.of_grown (B := w0.heap.size) (T := T) hg (fun g hg' => ⟨(World.ownsRow.lt h1 g hg').1, h2 g hg'⟩)).ext hx (Nat.le_refl _)

theorem OwnR.stored {w : World} {B E ER : Nat} {v : Value} {ll : List (List Int)} (h : OwnR w B w.heap.size E ER v ll) {p : Addr} (hp : p.block < B) (u : Value) : OwnR (w.setCell p u) B (w.setCell p u).heap.size E ER v ll := by
  have := h.setOld hp u
  simpa using this

/-- A block of which nothing is frozen. -/
def Thawed (w : World) (b : Nat) : Prop := b < w.heap.size ∧ ∀ o, w.frozen? ⟨b, o, none⟩ = false
theorem Thawed.ext {w w' : World} {b : Nat} (h : Thawed w b) (e : Ext w w') : Thawed w' b := ⟨Nat.lt_of_lt_of_le h.1 e.size, fun o => by rw [e.cells.2 b o h.1]; exact h.2 o⟩
theorem Thawed.untouched {w w' : World} {b B T : Nat} (h : Thawed w b) (t : Touched w w' B T) (hb : b < B ∨ T ≤ b) : Thawed w' b := by
  refine ⟨Nat.lt_of_lt_of_le h.1 t.size, fun o => ?_⟩
  have e := t.block b h.1 hb
  exact (World.frozen?_of_block (a := ⟨b, o, none⟩) e).trans (h.2 o)
theorem Thawed.setCell {w : World} {b : Nat} (h : Thawed w b) (x : Addr) (u : Value) : Thawed (w.setCell x u) b := ⟨by simpa using h.1, fun o => by simpa using h.2 o⟩
end Go.Kt
namespace Go.Kt
set_option linter.unusedVariables false

/-- Again and again. -/
inductive Rtc (R : Nat → Nat → Prop) : Nat → Nat → Prop
  | refl (i : Nat) : Rtc R i i
  | head {i k j : Nat} (h : R i k) (t : Rtc R k j) : Rtc R i j
theorem Rtc.trans {R : Nat → Nat → Prop} {i k j : Nat} (h : Rtc R i k) (t : Rtc R k j) : Rtc R i j := by
  induction h with
  | refl => exact t
  | head h1 _ ih => exact .head h1 (ih t)
theorem Rtc.one {R : Nat → Nat → Prop} {i j : Nat} (h : R i j) : Rtc R i j := .head h (.refl j)
theorem Rtc.tail {R : Nat → Nat → Prop} {i k j : Nat} (h : Rtc R i k) (t : R k j) : Rtc R i j := h.trans (.one t)
theorem Rtc.mono {R S : Nat → Nat → Prop} (hRS : ∀ i j, R i j → S i j) {i j : Nat} (h : Rtc R i j) : Rtc S i j := by
  induction h with
  | refl => exact .refl _
  | head h1 _ ih => exact .head (hRS _ _ h1) ih
/-- The set of those below n that meet p. -/
noncomputable def maskN (p : Nat → Prop) : Nat → Nat
  | 0 => 0
  | k + 1 => orN (maskN p k) (open Classical in if p k then pow2 k else 0)
theorem testBit_maskN (p : Nat → Prop) (i : Nat) : ∀ n, (maskN p n).testBit i = true ↔ i < n ∧ p i
  | 0 => by simp [maskN]
  | k + 1 => by
    rw [maskN, testBit_orN, Bool.or_eq_true, testBit_maskN p i k]
    by_cases h : p k
    · rw [if_pos h, testBit_pow2, decide_eq_true_eq]
      constructor
      · rintro (⟨h1, h2⟩ | rfl)
        · exact ⟨by omega, h2⟩
        · exact ⟨by omega, h⟩
      · rintro ⟨h1, h2⟩
        by_cases hk : k = i
        · exact .inr hk
        · exact .inl ⟨by omega, h2⟩
    · rw [if_neg h, Nat.zero_testBit]
      constructor
      · rintro (⟨h1, h2⟩ | h1)
        · exact ⟨by omega, h2⟩
        · cases h1
      · rintro ⟨h1, h2⟩
        have : i ≠ k := by rintro rfl; exact h h2
        exact .inl ⟨by omega, h2⟩
/-- A step by rows. -/
def By (r : List Int) (i j : Nat) : Prop := (natAt r i).testBit j = true
theorem by_lt {n : Nat} {r : List Int} (h : Rel n r) {i j : Nat} (hi : i < n) (hb : By r i j) : j < n := testBit_lt (h.lt i hi) hb
theorem by_plus {n : Nat} {a b : List Int} (ha : Rel n a) {i : Nat} (hi : i < n) (j : Nat) : By (plusTo a b a.length) i j ↔ By a i j ∨ By b i j := by
  unfold By
  rw [natAt_plus a b a.length i (by rw [ha.len]; exact hi), testBit_orN, Bool.or_eq_true]
theorem by_then {n : Nat} {a b : List Int} (ha : Rel n a) (hb : Rel n b) {i : Nat} (hi : i < n) (j : Nat) : By (thenTo a b a.length) i j ↔ ∃ k, By a i k ∧ By b k j := by
  unfold By
  rw [natAt_then a b a.length i (by rw [ha.len]; exact hi), testBit_img]
  constructor
  · rintro ⟨k, h1, h2, h3⟩; exact ⟨k, h2, h3⟩
  · rintro ⟨k, h2, h3⟩
    exact ⟨k, by rw [hb.len]; exact by_lt ha hi h2, h2, h3⟩
theorem by_star {n : Nat} {a : List Int} (ha : Rel n a) (hn : n ≤ 5) {i : Nat} (hi : i < n) (j : Nat) : By (starTo a a.length) i j ↔ Rtc (fun x y => x < n ∧ By a x y) i j := by
  have e : natAt (starTo a a.length) i = clo a (pow2 i) := natAt_star a a.length i (by rw [ha.len]; exact hi)
  have hcl := clo_img ha hn (pow2_lt_two hi)
  constructor
  · intro h
    have hs : Sub (clo a (pow2 i)) (maskN (fun y => Rtc (fun x y => x < n ∧ By a x y) i y) n) := by
      refine clo_least a ?_ ?_
      · intro y hy
        rw [testBit_pow2, decide_eq_true_eq] at hy
        subst hy
        exact (testBit_maskN _ _ _).2 ⟨hi, .refl _⟩
      · intro y hy
        obtain ⟨x, h1, h2, h3⟩ := (testBit_img a _ y).1 hy
        have h4 := (testBit_maskN _ _ _).1 h2
        exact (testBit_maskN _ _ _).2 ⟨by_lt ha h4.1 h3, h4.2.tail ⟨h4.1, h3⟩⟩
    unfold By at h
    rw [e] at h
    exact ((testBit_maskN _ _ _).1 (hs j h)).2
  · intro h
    have key : ∀ x y, Rtc (fun x y => x < n ∧ By a x y) x y → (clo a (pow2 i)).testBit x = true → (clo a (pow2 i)).testBit y = true := by
      intro x y h
      induction h with
      | refl => exact id
      | head h1 _ ih =>
        intro hx
        exact ih (hcl _ ((testBit_img a _ _).2 ⟨_, by rw [ha.len]; exact h1.1, hx, h1.2⟩))
    unfold By
    rw [e]
    exact key i j h (sub_clo a _ i (by rw [testBit_pow2]; simp))
theorem by_test (p q : Int) (t st : Nat) {i : Nat} (hi : i < st) (j : Nat) : By (testL p q t st st) i j ↔ i = j ∧ t.testBit (atomI p q i) = true := by
  unfold By
  rw [natAt_cast (testL_get p q t st st i hi)]
  unfold testRow
  cases hc : (tsTo p q t st).testBit i
  · simp only [Bool.false_eq_true, if_false, Nat.zero_testBit, false_iff]
    rintro ⟨rfl, h⟩
    rw [(testBit_tsTo p q t i st).2 ⟨hi, h⟩] at hc
    cases hc
  · have h := ((testBit_tsTo p q t i st).1 hc).2
    rw [if_pos rfl, testBit_pow2, decide_eq_true_eq]
    exact ⟨fun e => ⟨e, h⟩, fun e => e.1⟩
/-- Where an expression leads in a model with st states. -/
def Kt.Leads (p q : Int) (st : Nat) (ll : List (List Int)) : Kt → Nat → Nat → Prop
  | .leaf s => fun i j => if s ≤ 15 then i = j ∧ s.toNat.testBit (atomI p q i) = true else By (rowI ll (s.toNat - 16)) i j
  | .star a => Rtc (fun x y => x < st ∧ Kt.Leads p q st ll a x y)
  | .two s a b => fun i j => if s = 20 then Kt.Leads p q st ll a i j ∨ Kt.Leads p q st ll b i j else ∃ k, Kt.Leads p q st ll a i k ∧ Kt.Leads p q st ll b k j
theorem leads_iff (p q : Int) (st : Nat) (ll : List (List Int)) (hst : st ≤ 5) (hll : ∀ i, i < 3 → Rel st (rowI ll i)) : ∀ t : Kt, t.Good → ∀ i, i < st → ∀ j, (By (t.rows p q st ll) i j ↔ t.Leads p q st ll i j)
  | .leaf s, hg, i, hi, j => by
    simp only [Kt.rows, Kt.Leads]
    split
    · exact by_test p q _ st hi j
    · exact Iff.rfl
  | .star a, hg, i, hi, j => by
    have hr := a.rows_rel p q st ll (by omega) hll hg
    have ih := leads_iff p q st ll hst hll a hg
    simp only [Kt.rows, Kt.Leads]
    rw [by_star hr hst hi]
    exact ⟨Rtc.mono fun x y h => ⟨h.1, (ih x h.1 y).1 h.2⟩, Rtc.mono fun x y h => ⟨h.1, (ih x h.1 y).2 h.2⟩⟩
  | .two s a b, hg, i, hi, j => by
    have hra := a.rows_rel p q st ll (by omega) hll hg.2.1
    have hrb := b.rows_rel p q st ll (by omega) hll hg.2.2
    have iha := leads_iff p q st ll hst hll a hg.2.1
    have ihb := leads_iff p q st ll hst hll b hg.2.2
    simp only [Kt.rows, Kt.Leads]
    split
    · rw [by_plus hra hi, iha i hi, ihb i hi]
    · rw [by_then hra hrb hi]
      constructor
      · rintro ⟨k, h1, h2⟩
        exact ⟨k, (iha i hi k).1 h1, (ihb k (by_lt hra hi h1) j).1 h2⟩
      · rintro ⟨k, h1, h2⟩
        have h1' := (iha i hi k).2 h1
        exact ⟨k, h1', (ihb k (by_lt hra hi h1') j).2 h2⟩
end Go.Kt
namespace Go.Kt
set_option linter.unusedVariables false
section
variable {p q : Int} {st : Nat} {ll : List (List Int)}

theorem bit15 (a : Nat) (h : a ≤ 3) : (15 : Nat).testBit a = true := by
  rcases (show a = 0 ∨ a = 1 ∨ a = 2 ∨ a = 3 by omega) with rfl | rfl | rfl | rfl <;> decide
theorem words_15 {t : Kt} (h : t.words = [15]) : t = .leaf 15 := by
  have hl : t.words.length = 1 := by rw [h]; rfl
  cases t with
  | leaf s => simp [Kt.words] at h; rw [h]
  | star a =>
    have h1 := a.words_pos
    simp only [Kt.words, List.length_append, List.length_cons, List.length_nil] at hl
    omega
  | two s a b =>
    have h1 := a.words_pos
    have h2 := b.words_pos
    simp only [Kt.words, List.length_append, List.length_cons, List.length_nil] at hl
    omega
theorem leads_15 (i u : Nat) : Kt.Leads p q st ll (.leaf 15) i u ↔ i = u := by
  unfold Kt.Leads
  rw [if_pos (by decide)]
  exact ⟨fun h => h.1, fun h => ⟨h, bit15 _ (atomI_le p q i)⟩⟩
theorem leads_behind (a t : Kt) (i u : Nat) : (behindK a t).Leads p q st ll i u ↔ ∃ v, a.Leads p q st ll i v ∧ t.Leads p q st ll v u := by
  unfold behindK
  split
  · rename_i h
    rw [words_15 h]
    constructor
    · intro h; exact ⟨i, (leads_15 i i).2 rfl, h⟩
    · rintro ⟨v, h1, h2⟩
      rw [(leads_15 i v).1 h1]; exact h2
  · exact Iff.rfl
theorem ends_sound : ∀ (t : Kt), t.Good → ∀ (i : Nat), t.ends.testBit (atomI p q i) = true → t.Leads p q st ll i i
  | .leaf x, hg, i, h => by
    unfold Kt.ends at h
    show (if x ≤ 15 then i = i ∧ x.toNat.testBit (atomI p q i) = true else _)
    split at h
    · rename_i hx; rw [if_pos hx]; exact ⟨rfl, h⟩
    · simp at h
  | .star a, hg, i, h => Rtc.refl i
  | .two s a b, hg, i, h => by
    unfold Kt.ends at h
    show (if s = 20 then a.Leads p q st ll i i ∨ b.Leads p q st ll i i else ∃ k, a.Leads p q st ll i k ∧ b.Leads p q st ll k i)
    split at h
    · rename_i hs
      rw [Nat.testBit_and, Bool.and_eq_true] at h
      rw [if_neg (by omega)]
      exact ⟨i, ends_sound a hg.2.1 i h.1, ends_sound b hg.2.2 i h.2⟩
    · rename_i hs
      rw [Nat.testBit_or, Bool.or_eq_true] at h
      rw [if_pos (by have := hg.1; omega)]
      exact h.imp (ends_sound a hg.2.1 i) (ends_sound b hg.2.2 i)
theorem leads_plus (a b : Kt) (i u : Nat) : (Kt.two 20 a b).Leads p q st ll i u ↔ a.Leads p q st ll i u ∨ b.Leads p q st ll i u := Iff.rfl
theorem leads_then (a b : Kt) (i u : Nat) : (Kt.two 19 a b).Leads p q st ll i u ↔ ∃ k, a.Leads p q st ll i k ∧ b.Leads p q st ll k u := Iff.rfl
theorem part_sound {i j k : Nat} (hi : i < st) (hb : By (rowI ll k) i j) : ∀ (t : Kt), t.Good → ∀ (r : Kt), r ∈ t.part (atomI p q i) (16 + (k : Int)) → ∀ u, r.Leads p q st ll j u → t.Leads p q st ll i u
  | .leaf x, hg, r, hr, u, hu => by
    unfold Kt.part at hr
    split at hr
    · rename_i hx
      simp at hr
      subst hr hx
      have e := (leads_15 j u).1 hu
      subst e
      show (if 16 + (k : Int) ≤ 15 then _ else By (rowI ll ((16 + (k : Int)).toNat - 16)) i j)
      rw [if_neg (by omega), show (16 + (k : Int)).toNat - 16 = k by omega]
      exact hb
    · cases hr
  | .star a, hg, r, hr, u, hu => by
    unfold Kt.part at hr
    obtain ⟨s, hs, rfl⟩ := List.mem_map.1 hr
    obtain ⟨v, h1, h2⟩ := (leads_behind s _ j u).1 hu
    exact Rtc.head ⟨hi, part_sound hi hb a hg s hs v h1⟩ h2
  | .two s a b, hg, r, hr, u, hu => by
    unfold Kt.part at hr
    split at hr
    · rename_i hs
      subst hs
      rw [leads_then]
      rcases List.mem_append.1 hr with hr | hr
      · obtain ⟨s, hs, rfl⟩ := List.mem_map.1 hr
        obtain ⟨v, h1, h2⟩ := (leads_behind s _ j u).1 hu
        exact ⟨v, part_sound hi hb a hg.2.1 s hs v h1, h2⟩
      · split at hr
        · rename_i he
          exact ⟨i, ends_sound a hg.2.1 i he, part_sound hi hb b hg.2.2 r hr u hu⟩
        · cases hr
    · rename_i hs
      obtain rfl : s = 20 := by have := hg.1; omega
      rw [leads_plus]
      rcases List.mem_append.1 hr with hr | hr
      · exact .inl (part_sound hi hb a hg.2.1 r hr u hu)
      · exact .inr (part_sound hi hb b hg.2.2 r hr u hu)
end
end Go.Kt
namespace Go.Kt
set_option linter.unusedVariables false
section
variable {p q : Int} {st : Nat} {ll : List (List Int)}

/-- A way of n steps. -/
def Run (p q : Int) (ll : List (List Int)) : Nat → Kt → Nat → Nat → Prop
  | 0 => fun t i u => i = u ∧ t.ends.testBit (atomI p q i) = true
  | n + 1 => fun t i u => ∃ (k j : Nat) (r : Kt), k < 3 ∧ r ∈ t.part (atomI p q i) (16 + (k : Int)) ∧ By (rowI ll k) i j ∧ Run p q ll n r j u
theorem run_15 {n j v : Nat} (h : Run p q ll n (.leaf 15) j v) : n = 0 ∧ j = v := by
  cases n with
  | zero => exact ⟨rfl, h.1⟩
  | succ n =>
    obtain ⟨k, j', r, hk, hr, -⟩ := h
    unfold Kt.part at hr
    rw [if_neg (by omega)] at hr
    cases hr
theorem run_behind_of {n m : Nat} {a b : Kt} {i v u : Nat} (hA : Run p q ll n a i v) (hB : Run p q ll m b v u) (hT : Run p q ll (n + m) (.two 19 a b) i u) : Run p q ll (n + m) (behindK a b) i u := by
  unfold behindK
  split
  · rename_i h
    rw [words_15 h] at hA
    obtain ⟨rfl, rfl⟩ := run_15 hA
    rw [Nat.zero_add]; exact hB
  · exact hT
theorem run_then {b : Kt} {m : Nat} {v u : Nat} (hB : Run p q ll m b v u) : ∀ (n : Nat) (a : Kt) (i : Nat), Run p q ll n a i v → Run p q ll (n + m) (.two 19 a b) i u
  | 0, a, i, h => by
    obtain ⟨rfl, he⟩ := h
    rw [Nat.zero_add]
    cases m with
    | zero => exact ⟨hB.1, by show (a.ends &&& b.ends).testBit _ = true; rw [Nat.testBit_and, he, hB.2]; rfl⟩
    | succ m =>
      obtain ⟨k, j, r, hk, hr, hb, h2⟩ := hB
      refine ⟨k, j, r, hk, ?_, hb, h2⟩
      unfold Kt.part
      rw [if_pos rfl, if_pos he]
      exact List.mem_append.2 (.inr hr)
  | n + 1, a, i, h => by
    obtain ⟨k, j, r, hk, hr, hb, h2⟩ := h
    have h3 := run_behind_of h2 hB (run_then hB n r j h2)
    rw [show n + 1 + m = (n + m) + 1 by omega]
    refine ⟨k, j, behindK r b, hk, ?_, hb, h3⟩
    unfold Kt.part
    rw [if_pos rfl]
    exact List.mem_append.2 (.inl (List.mem_map.2 ⟨r, hr, rfl⟩))
theorem run_behind {n m : Nat} {a b : Kt} {i v u : Nat} (hA : Run p q ll n a i v) (hB : Run p q ll m b v u) : Run p q ll (n + m) (behindK a b) i u := run_behind_of hA hB (run_then hB n a i hA)
theorem run_star {n m : Nat} {a : Kt} {i v u : Nat} (hA : Run p q ll n a i v) (hB : Run p q ll m (.star a) v u) : ∃ l, Run p q ll l (.star a) i u := by
  cases n with
  | zero => obtain ⟨rfl, -⟩ := hA; exact ⟨m, hB⟩
  | succ n =>
    obtain ⟨k, j, r, hk, hr, hb, h2⟩ := hA
    exact ⟨n + m + 1, k, j, behindK r (.star a), hk, List.mem_map.2 ⟨r, hr, rfl⟩, hb, run_behind h2 hB⟩
theorem run_plus {n : Nat} {a b : Kt} {i u : Nat} (h : Run p q ll n a i u ∨ Run p q ll n b i u) : Run p q ll n (.two 20 a b) i u := by
  cases n with
  | zero =>
    rcases h with ⟨h1, h2⟩ | ⟨h1, h2⟩
    · exact ⟨h1, by show (a.ends ||| b.ends).testBit _ = true; rw [Nat.testBit_or, h2]; rfl⟩
    · exact ⟨h1, by show (a.ends ||| b.ends).testBit _ = true; rw [Nat.testBit_or, h2, Bool.or_true]⟩
  | succ n =>
    rcases h with ⟨k, j, r, hk, hr, hb, h2⟩ | ⟨k, j, r, hk, hr, hb, h2⟩
    · exact ⟨k, j, r, hk, by unfold Kt.part; rw [if_neg (by decide)]; exact List.mem_append.2 (.inl hr), hb, h2⟩
    · exact ⟨k, j, r, hk, by unfold Kt.part; rw [if_neg (by decide)]; exact List.mem_append.2 (.inr hr), hb, h2⟩
theorem leads_run : ∀ (t : Kt), t.Good → ∀ (i u : Nat), t.Leads p q st ll i u → ∃ n, Run p q ll n t i u
  | .leaf x, hg, i, u, h => by
    have hg : 0 ≤ x ∧ x ≤ 18 := hg
    replace h : (if x ≤ 15 then i = u ∧ x.toNat.testBit (atomI p q i) = true else By (rowI ll (x.toNat - 16)) i u) := h
    split at h
    · rename_i hx
      exact ⟨0, h.1, by unfold Kt.ends; rw [if_pos hx]; exact h.2⟩
    · rename_i hx
      refine ⟨1, x.toNat - 16, u, .leaf 15, by omega, ?_, h, rfl, bit15 _ (atomI_le p q u)⟩
      unfold Kt.part
      rw [if_pos (by omega)]; simp
  | .star a, hg, i, u, h => by
    have ih := leads_run a hg
    replace h : Rtc (fun x y => x < st ∧ a.Leads p q st ll x y) i u := h
    induction h with
    | refl i => exact ⟨0, rfl, bit15 _ (atomI_le p q i)⟩
    | @head i v u h1 h2 ih2 =>
      obtain ⟨n, hn⟩ := ih i v h1.2
      obtain ⟨m, hm⟩ := ih2
      exact run_star hn hm
  | .two s a b, hg, i, u, h => by
    rcases (show s = 19 ∨ s = 20 from hg.1) with rfl | rfl
    · obtain ⟨v, h1, h2⟩ := h
      obtain ⟨n, hn⟩ := leads_run a hg.2.1 i v h1
      obtain ⟨m, hm⟩ := leads_run b hg.2.2 v u h2
      exact ⟨n + m, run_then hm n a i hn⟩
    · rcases (show a.Leads p q st ll i u ∨ b.Leads p q st ll i u from h) with h | h
      · obtain ⟨n, hn⟩ := leads_run a hg.2.1 i u h
        exact ⟨n, run_plus (.inl hn)⟩
      · obtain ⟨n, hn⟩ := leads_run b hg.2.2 i u h
        exact ⟨n, run_plus (.inr hn)⟩
theorem run_leads (hll : ∀ k, k < 3 → Rel st (rowI ll k)) : ∀ (n : Nat) (t : Kt), t.Good → ∀ (i u : Nat), i < st → Run p q ll n t i u → t.Leads p q st ll i u
  | 0, t, hg, i, u, hi, h => by
    obtain ⟨rfl, he⟩ := h
    exact ends_sound t hg i he
  | n + 1, t, hg, i, u, hi, h => by
    obtain ⟨k, j, r, hk, hr, hb, h2⟩ := h
    have hrg : r.Good := pd_good t hg r (part_pd _ _ (by omega) t r hr)
    exact part_sound hi hb t hg r hr u (run_leads hll n r hrg j u (by_lt (hll k hk) hi hb) h2)
theorem leads_iff_run (hll : ∀ k, k < 3 → Rel st (rowI ll k)) {t : Kt} (hg : t.Good) {i u : Nat} (hi : i < st) : t.Leads p q st ll i u ↔ ∃ n, Run p q ll n t i u :=
  ⟨leads_run t hg i u, fun ⟨n, h⟩ => run_leads hll n t hg i u hi h⟩
end
end Go.Kt
namespace Go.Kt
set_option linter.unusedVariables false

/-- A program as a tree. -/
inductive Pt where
  | one (w : Int)
  | seq (a b : Pt)
  | ifs (t : Int) (a b : Pt)
  | loop (t : Int) (a : Pt)
/-- Its words. -/
def Pt.words : Pt → List Int
  | .one w => [w]
  | .seq a b => a.words ++ b.words ++ [30]
  | .ifs t a b => a.words ++ b.words ++ [100 + t]
  | .loop t a => a.words ++ [200 + t]
/-- Its words are in their bounds. -/
def Pt.Good : Pt → Prop
  | .one w => w = 15 ∨ (16 ≤ w ∧ w ≤ 18)
  | .seq a b => a.Good ∧ b.Good
  | .ifs t a b => (0 ≤ t ∧ t ≤ 15) ∧ a.Good ∧ b.Good
  | .loop t a => (0 ≤ t ∧ t ≤ 15) ∧ a.Good
/-- The words of a stack of trees. -/
def allW : List Pt → List Int
  | [] => []
  | t :: ts => t.words ++ allW ts
theorem allW_append : ∀ (xs ys : List Pt), allW (xs ++ ys) = allW xs ++ allW ys
  | [], ys => rfl
  | x :: xs, ys => by simp only [List.cons_append, allW, allW_append xs ys, List.append_assoc]
theorem take_nth {l : List Int} {k : Nat} (h : k < l.length) : l.take (k + 1) = l.take k ++ [nth l k] := by
  have e : nth l k = l[k] := by unfold nth; rw [List.getD_eq_getElem?_getD, List.getElem?_eq_getElem h]; rfl
  rw [List.take_add_one, List.getElem?_eq_getElem h, e]
  rfl
/-- The stack behind the first k words. -/
def Stk (l : List Int) (k : Nat) (ts : List Pt) : Prop := (∀ t, t ∈ ts → t.Good) ∧ allW ts = l.take k ∧ mny l k = some ts.length
theorem Stk.start (l : List Int) : Stk l 0 [] := ⟨(fun t h => by cases h), rfl, rfl⟩
theorem Stk.push {l : List Int} {k : Nat} {us ts : List Pt} {t : Pt} (h : Stk l k (us ++ ts)) (hk : k < l.length) (hg : (∀ t, t ∈ ts → t.Good) → t.Good) (hw : t.words = allW ts ++ [nth l k])
    (ht : tk (nth l k) = ts.length) : Stk l (k + 1) (us ++ [t]) := by
  obtain ⟨h1, h2, h3⟩ := h
  refine ⟨fun x hx => ?_, ?_, ?_⟩
  · rcases List.mem_append.1 hx with hx | hx
    · exact h1 x (List.mem_append.2 (.inl hx))
    · simp at hx; subst hx
      exact hg fun t ht => h1 t (List.mem_append.2 (.inr ht))
  · rw [take_nth hk, ← h2, allW_append, allW_append]
    simp only [allW, List.append_nil, hw, List.append_assoc]
  · rw [mny_good h3 (by rw [ht, List.length_append]; omega), ht]
    simp
theorem Stk.one {l : List Int} {k : Nat} {ts : List Pt} (h : Stk l k ts) (hk : k < l.length) (hb : nth l k = 15 ∨ (16 ≤ nth l k ∧ nth l k ≤ 18)) : Stk l (k + 1) (ts ++ [.one (nth l k)]) := by
  refine Stk.push (ts := []) (by rw [List.append_nil]; exact h) hk (fun _ => hb) rfl ?_
  unfold tk; rw [if_pos hb]; rfl
theorem Stk.seq {l : List Int} {k : Nat} {us : List Pt} {a b : Pt} (h : Stk l k (us ++ [a, b])) (hk : k < l.length) (hb : nth l k = 30) : Stk l (k + 1) (us ++ [.seq a b]) := by
  refine Stk.push h hk (fun hg => ⟨hg a (by simp), hg b (by simp)⟩) ?_ ?_
  · simp [Pt.words, allW, hb]
  · unfold tk; rw [if_neg (by omega), if_pos (.inl hb)]; rfl
theorem Stk.ifs {l : List Int} {k : Nat} {us : List Pt} {a b : Pt} (h : Stk l k (us ++ [a, b])) (hk : k < l.length) (hb : 100 ≤ nth l k ∧ nth l k ≤ 115) : Stk l (k + 1) (us ++ [.ifs (nth l k - 100) a b]) := by
  refine Stk.push h hk (fun hg => ⟨⟨by omega, by omega⟩, hg a (by simp), hg b (by simp)⟩) ?_ ?_
  · have : 100 + (nth l k - 100) = nth l k := by omega
    simp [Pt.words, allW, this]
  · unfold tk; rw [if_neg (by omega), if_pos (.inr hb)]; rfl
theorem Stk.loop {l : List Int} {k : Nat} {us : List Pt} {a : Pt} (h : Stk l k (us ++ [a])) (hk : k < l.length) (hb : 200 ≤ nth l k ∧ nth l k ≤ 215) : Stk l (k + 1) (us ++ [.loop (nth l k - 200) a]) := by
  refine Stk.push h hk (fun hg => ⟨⟨by omega, by omega⟩, hg a (by simp)⟩) ?_ ?_
  · have : 200 + (nth l k - 200) = nth l k := by omega
    simp [Pt.words, allW, this]
  · unfold tk; rw [if_neg (by omega), if_neg (by omega), if_pos hb]; rfl
/-- The tree of the words, if they are a program. -/
theorem Stk.done {l : List Int} {t : Pt} (h : Stk l l.length [t]) (hn : 1 ≤ l.length ∧ l.length ≤ 16) : pvB l = true ∧ t.Good ∧ t.words = l := by
  obtain ⟨h1, h2, h3⟩ := h
  refine ⟨by rw [pvB_end hn h3]; rfl, h1 t (by simp), ?_⟩
  simpa [allW] using h2
theorem Stk.not {l : List Int} {ts : List Pt} (h : Stk l l.length ts) (hn : 1 ≤ l.length ∧ l.length ≤ 16) (hts : ts.length ≠ 1) : pvB l = false := by
  rw [pvB_end hn h.2.2]; simp [hts]
end Go.Kt
namespace Go.Kt
set_option linter.unusedVariables false

theorem mnyK_seg (l : List Int) : ∀ (t : Kt), t.Good → ∀ (o m : Nat), SegK l o t.words → mnyK l o = some m → mnyK l (o + t.words.length) = some (m + 1)
  | .leaf s, hg, o, m, hs, hm => by
    have hg : 0 ≤ s ∧ s ≤ 18 := hg
    have h0 : nth l o = s := hs 0 (by simp [Kt.words])
    have ht : tkK s = 0 := by unfold tkK; rw [if_neg (by omega), if_neg (by omega)]
    have := mnyK_good hm (by rw [h0]; unfold BadK; rw [ht]; omega)
    rw [h0, ht] at this
    simpa [Kt.words] using this
  | .star a, hg, o, m, hs, hm => by
    have ha := mnyK_seg l a hg o m (SegK.left hs) hm
    have hl : nth l (o + a.words.length) = 21 := SegK.right hs 0 (by simp)
    have ht : tkK 21 = 1 := rfl
    have := mnyK_good ha (by rw [hl]; unfold BadK; rw [ht]; omega)
    rw [hl, ht] at this
    have e : o + (Kt.star a).words.length = o + a.words.length + 1 := by simp [Kt.words]; omega
    rw [e, this]
    congr 1
  | .two s a b, hg, o, m, hs, hm => by
    obtain ⟨h2, ga, gb⟩ := hg
    have hab : SegK l o (a.words ++ b.words) := SegK.left hs
    have ha := mnyK_seg l a ga o m (SegK.left hab) hm
    have hb := mnyK_seg l b gb _ _ (SegK.right hab) ha
    have hl : nth l (o + (a.words ++ b.words).length) = s := SegK.right hs 0 (by simp)
    rw [List.length_append, ← Nat.add_assoc] at hl
    have ht : tkK s = 2 := by unfold tkK; rw [if_pos h2]
    have := mnyK_good hb (by rw [hl]; unfold BadK; rw [ht]; omega)
    rw [hl, ht] at this
    have e : o + (Kt.two s a b).words.length = o + a.words.length + b.words.length + 1 := by simp [Kt.words]; omega
    rw [e, this]
    congr 1
theorem SegK.self (l : List Int) : SegK l 0 l := fun i hi => by rw [Nat.zero_add]
theorem kvB_words {t : Kt} (h : t.Good) : kvB t.words = decide (t.words.length ≤ 40) := by
  have h1 := mnyK_seg t.words t h 0 0 (SegK.self _) rfl
  have hp := t.words_pos
  rw [Nat.zero_add] at h1
  unfold kvB
  rw [h1]
  by_cases hl : t.words.length ≤ 40
  · rw [decide_eq_true hl, decide_eq_true ⟨hp, hl⟩]; rfl
  · rw [decide_eq_false hl, decide_eq_false (fun h => hl h.2)]; rfl
theorem kvB_words_true {t : Kt} (h : t.Good) (hl : t.words.length ≤ 40) : kvB t.words = true := by rw [kvB_words h, decide_eq_true hl]
end Go.Kt
