/- Merged texts: contracts and plain lemmas (Tx). -/
import Derived.Test.YtlaamecfknkmlaaDoorMg9
import Derived.Test.YtlaamecfknkmlaaDoorMg12
/- Contracts: texts of trees, in the program. -/
namespace Go.Kt
/-- In round brackets, or not. -/
def brk (b : Bool) (s : ByteArray) : ByteArray := if b then ⟨#[40]⟩ ++ s ++ ⟨#[41]⟩ else s
def letterS (x : Int) : ByteArray := ⟨#[UInt8.ofNat (97 + (x - 16)).toNat]⟩
/-- The text of a tree. -/
def Kt.txt : Kt → ByteArray
  | .leaf x => if x ≤ 15 then testS x.toNat else letterS x
  | .star a => brk (a.top == 19 || a.top == 20) a.txt ++ ⟨#[42]⟩
  | .two s a b => if s = 19 then brk (a.top == 20) a.txt ++ ⟨#[59]⟩ ++ brk (b.top == 20 || b.top == 19) b.txt else a.txt ++ ⟨#[43]⟩ ++ brk (b.top == 20) b.txt
theorem brk_size (b : Bool) (s : ByteArray) : (brk b s).size ≤ s.size + 2 := by
  cases b
  · exact Nat.le_add_right _ _
  · show (⟨#[40]⟩ ++ s ++ ⟨#[41]⟩ : ByteArray).size ≤ _
    rw [ByteArray.size_append, ByteArray.size_append]
    show 1 + s.size + 1 ≤ _
    omega
theorem sz1 (x : UInt8) : (⟨#[x]⟩ : ByteArray).size = 1 := rfl
theorem Kt.txt_size : ∀ t : Kt, t.txt.size + 2 ≤ 10 * t.words.length
  | .leaf x => by
    have h := testS_size x.toNat
    have h1 : (Kt.leaf x).words.length = 1 := rfl
    rw [h1]
    unfold Kt.txt
    split
    · omega
    · unfold letterS; rw [sz1]; omega
  | .star a => by
    have h := a.txt_size
    have h1 : (Kt.star a).words.length = a.words.length + 1 := by simp [Kt.words]
    have h2 := brk_size (a.top == 19 || a.top == 20) a.txt
    rw [h1]
    unfold Kt.txt
    rw [ByteArray.size_append, sz1]
    omega
  | .two s a b => by
    have h := a.txt_size
    have h0 := b.txt_size
    have h1 : (Kt.two s a b).words.length = a.words.length + b.words.length + 1 := by simp [Kt.words]; omega
    have h2 := brk_size (a.top == 20) a.txt
    have h3 := brk_size (b.top == 20 || b.top == 19) b.txt
    have h4 := brk_size (b.top == 20) b.txt
    rw [h1]
    unfold Kt.txt
    split
    · rw [ByteArray.size_append, ByteArray.size_append, sz1]; omega
    · rw [ByteArray.size_append, ByteArray.size_append, sz1]; omega
theorem contains_one (x y : Int) : [x].contains y = (y == x) := by rw [Bool.eq_iff_iff]; simp
theorem contains_two (x z y : Int) : [x, z].contains y = (y == x || y == z) := by rw [Bool.eq_iff_iff]; simp
end Go.Kt
namespace Go.Proofs.YtlaamecfknkmlaaDoor
set_option linter.unusedVariables false
open Go.RowKit Go.Kt

/-- A number that is none below 0 exactly if x is in l. -/
def RetX (w : World) (l : List Int) (x : Int) (e : Ending) (w' : World) : Prop := ∃ r : Int, e = .returned (.int .i64 r) ∧ Hid (decide (0 ≤ r) = l.contains x) ∧ w = w'
theorem top_cell {w : World} {X : Nat → Prop} {t : Kt} {g : Nat} (h : TreeAt w X t g) : w.cell? ⟨g, 0, none⟩ = some (.int .i64 t.top) := by
  cases t with
  | leaf s => exact h.2.1
  | star a => exact h.2.1
  | two s a b => exact h.2.1
end Go.Proofs.YtlaamecfknkmlaaDoor
