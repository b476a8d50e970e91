/- Merged texts: contracts and plain lemmas (Md). -/
import Derived.Test.YtlaamecfknkmlaaDoorMh18
import Derived.Test.YtlaamecfknkmlaaDoorMh25
import Derived.Test.YtlaamecfknkmlaaDoorMh26
/- Contracts: the draws of a model, an expression and a set of states. -/
namespace Go.Proofs.YtlaamecfknkmlaaDoor
set_option linter.unusedVariables false
open Go.RowKit Go.Kt

/-- What drawing a model, an expression and a set comes to. -/
def DrewMd (w : World) (g m : Nat) (e : Ending) (w' : World) : Prop :=
  ∃ (st : Nat) (p q : Int) (a : Option Addr) (cap : Nat) (ll : List (List Int)) (v : Value) (L : List Int) (x : Int), e = .returned (.tuple #[modelV st p q a ll.length cap, v, .int .i64 x]) ∧ st ≤ 5 ∧ RowsFrom w' w.heap.size a ll ∧ ll.length ≤ cap ∧ ll.length ≤ 3 ∧ (∀ i, i < ll.length → (rowI ll i).length ≤ 8) ∧
    OwnI w' w.heap.size 3 v L ∧ L.length ≤ 41 ∧ Rd w' g (m + 1700) ∧ Touched w w' g (g + 1)
theorem keepMd {w1 wx w2 : World} {g b c : Nat} {st p q : Int} {v : Value} (h : w1.cell? ⟨b, 0, none⟩ = some (.int .i64 st) ∧ w1.cell? ⟨b, 1, none⟩ = some (.int .i64 p) ∧ w1.cell? ⟨b, 2, none⟩ = some (.int .i64 q) ∧ w1.cell? ⟨b, 3, none⟩ = some v ∧ w1.frozen? ⟨c, 0, none⟩ = false ∧ w1.frozen? ⟨c, 1, none⟩ = false ∧ w1.frozen? ⟨c, 2, none⟩ = false ∧ w1.frozen? ⟨c, 3, none⟩ = false ∧ c < w1.heap.size) (e : Ext w1 wx) (t : Touched wx w2 g (g + 1)) (h1 : g ≠ b) (h2 : g ≠ c) : w2.cell? ⟨b, 0, none⟩ = some (.int .i64 st) ∧ w2.cell? ⟨b, 1, none⟩ = some (.int .i64 p) ∧ w2.cell? ⟨b, 2, none⟩ = some (.int .i64 q) ∧ w2.cell? ⟨b, 3, none⟩ = some v ∧ w2.frozen? ⟨c, 0, none⟩ = false ∧ w2.frozen? ⟨c, 1, none⟩ = false ∧ w2.frozen? ⟨c, 2, none⟩ = false ∧ w2.frozen? ⟨c, 3, none⟩ = false ∧ c < w2.heap.size := by
  obtain ⟨c0, c1, c2, c3, f0, f1, f2, f3, hz⟩ := h
  have hb := BoxM.untouched (BoxM.ext (show BoxM w1 b st p q v from ⟨c0, c1, c2, c3⟩) e) t (by omega)
  have hf : ∀ o, w1.frozen? ⟨c, o, none⟩ = false → w2.frozen? ⟨c, o, none⟩ = false := fun o ho =>
    (World.frozen?_of_block (a := ⟨c, o, none⟩) ((t.block c (Nat.lt_of_lt_of_le hz e.size) (by omega)).trans (e.block c hz))).trans ho
  exact ⟨hb.1, hb.2.1, hb.2.2.1, hb.2.2.2, hf 0 f0, hf 1 f1, hf 2 f2, hf 3 f3, Nat.lt_of_lt_of_le hz (Nat.le_trans e.size t.size)⟩
theorem keepMd0 {w2 : World} {c st : Nat} {p q : Int} {v : Value} (hb : BoxM (w2.alloc (.cells #[.int .i64 st, .int .i64 p, .int .i64 q, v] 25)) w2.heap.size st p q v) (h : Thawed w2 c) : (w2.alloc (.cells #[.int .i64 st, .int .i64 p, .int .i64 q, v] 25)).cell? ⟨w2.heap.size, 0, none⟩ = some (.int .i64 (st : Int)) ∧ (w2.alloc (.cells #[.int .i64 st, .int .i64 p, .int .i64 q, v] 25)).cell? ⟨w2.heap.size, 1, none⟩ = some (.int .i64 p) ∧ (w2.alloc (.cells #[.int .i64 st, .int .i64 p, .int .i64 q, v] 25)).cell? ⟨w2.heap.size, 2, none⟩ = some (.int .i64 q) ∧ (w2.alloc (.cells #[.int .i64 st, .int .i64 p, .int .i64 q, v] 25)).cell? ⟨w2.heap.size, 3, none⟩ = some v ∧ (w2.alloc (.cells #[.int .i64 st, .int .i64 p, .int .i64 q, v] 25)).frozen? ⟨c, 0, none⟩ = false ∧ (w2.alloc (.cells #[.int .i64 st, .int .i64 p, .int .i64 q, v] 25)).frozen? ⟨c, 1, none⟩ = false ∧ (w2.alloc (.cells #[.int .i64 st, .int .i64 p, .int .i64 q, v] 25)).frozen? ⟨c, 2, none⟩ = false ∧ (w2.alloc (.cells #[.int .i64 st, .int .i64 p, .int .i64 q, v] 25)).frozen? ⟨c, 3, none⟩ = false ∧ c < (w2.alloc (.cells #[.int .i64 st, .int .i64 p, .int .i64 q, v] 25)).heap.size := by
  have hx : Ext w2 (w2.alloc (.cells #[.int .i64 st, .int .i64 p, .int .i64 q, v] 25)) := (Ext.refl _).alloc _
  exact ⟨hb.1, hb.2.1, hb.2.2.1, hb.2.2.2, (hx.frozen (p := ⟨c, 0, none⟩) h.1).trans (h.2 0), (hx.frozen (p := ⟨c, 1, none⟩) h.1).trans (h.2 1), (hx.frozen (p := ⟨c, 2, none⟩) h.1).trans (h.2 2), (hx.frozen (p := ⟨c, 3, none⟩) h.1).trans (h.2 3), Nat.lt_of_lt_of_le h.1 hx.size⟩
/-- What drawing them from bytes comes to (Weak). -/
def DrewMWeak (w : World) (e : Ending) (w' : World) : Prop :=
  ∃ (st : Nat) (p q : Int) (a : Option Addr) (cap : Nat) (ll : List (List Int)) (a3 : Option Addr) (c3 : Nat) (L : List Int) (x : Int), e = .returned (.tuple #[modelV st p q a ll.length cap, .slice a3 L.length c3, .int .i64 x]) ∧ st ≤ 5 ∧ RowsAt w' a ll ∧ ll.length ≤ cap ∧ ll.length ≤ 3 ∧ (∀ i, i < ll.length → (rowI ll i).length ≤ 8) ∧ IntsAt w' a3 L ∧ L.length ≤ 41 ∧ L.length ≤ c3 ∧ Ext w w'
/-- What drawing them from bytes comes to (Strong). -/
def DrewMStrong (w : World) (e : Ending) (w' : World) : Prop :=
  ∃ (st : Nat) (p q : Int) (a : Option Addr) (cap : Nat) (ll : List (List Int)) (a3 : Option Addr) (c3 : Nat) (L : List Int) (x : Int), e = .returned (.tuple #[modelV st p q a ll.length cap, .int .i64 x, .slice a3 L.length c3]) ∧ st ≤ 5 ∧ RowsAt w' a ll ∧ ll.length ≤ cap ∧ ll.length ≤ 3 ∧ (∀ i, i < ll.length → (rowI ll i).length ≤ 8) ∧ IntsAt w' a3 L ∧ L.length ≤ 41 ∧ L.length ≤ c3 ∧ Ext w w'
/-- What drawing them from bytes comes to (Rows). -/
def DrewMRows (w : World) (e : Ending) (w' : World) : Prop :=
  ∃ (st : Nat) (p q : Int) (a : Option Addr) (cap : Nat) (ll : List (List Int)) (a3 : Option Addr) (c3 : Nat) (L : List Int), e = .returned (.tuple #[modelV st p q a ll.length cap, .slice a3 L.length c3]) ∧ st ≤ 5 ∧ RowsAt w' a ll ∧ ll.length ≤ cap ∧ ll.length ≤ 3 ∧ (∀ i, i < ll.length → (rowI ll i).length ≤ 8) ∧ IntsAt w' a3 L ∧ L.length ≤ 41 ∧ L.length ≤ c3 ∧ Ext w w'
end Go.Proofs.YtlaamecfknkmlaaDoor
