/- Merged texts: contracts and plain lemmas (Yr). -/
import Derived.Test.YtlaamecfknkmlaaGreatGtYq
namespace Go.Proofs.YtlaamecfknkmlaaGreat
set_option linter.unusedVariables false
open Go.RowKit Go.Kt

/-- An expression and a trace drawn. -/
def DrewEE (w : World) (g m : Nat) (e : Ending) (w' : World) : Prop :=
  ∃ (v1 v2 : Value) (L1 L2 : List Int), e = .returned (.tuple #[v1, v2]) ∧ OwnI w' w.heap.size 3 v1 L1 ∧ OwnI w' w.heap.size 3 v2 L2 ∧ L1.length ≤ 41 ∧ L2.length ≤ 43 ∧ Rd w' g m ∧ Touched w w' g (g + 1)
theorem WordSt.two {w wr : World} {g m m' : Nat} {v1 v2 : Value} {L1 L2 : List Int} (h : WordSt w wr g m v1 L1) (k : WordSt w wr g m' v2 L2) (h1 : L1.length ≤ 41) (h2 : L2.length ≤ 43) {M : Nat} (hM : m' ≤ M) : DrewEE w g M (.returned (.tuple #[v1, v2])) wr :=
  ⟨v1, v2, L1, L2, rfl, h.own, k.own, h1, h2, k.rd.mono hM, k.tch⟩
theorem OwnI.setn {w : World} {B E g cap n : Nat} {l : List Int} (h : OwnI w B E (.slice (some ⟨g, 0, none⟩) n cap) l) (hn : l.length = n) (k : Nat) (u : Int) :
    OwnI (w.setCell ⟨g, k, none⟩ (.int .i64 u)) B E (.slice (some ⟨g, 0, none⟩) n cap) (l.set k u) := by
  subst hn
  have h1 := h.set k u
  rw [List.length_set] at h1
  exact h1
theorem OwnI.setg {w : World} {B E g cap n : Nat} {l : List Int} (h : OwnI w B E (.slice (some ⟨g, 0, none⟩) n cap) l) (hn : l.length = n) (k : Nat) (u : Int) :
    w.grownBy (w.setCell ⟨g, k, none⟩ (.int .i64 u)) (some g) := by
  subst hn
  exact (World.ownsRow.stored h k (.int .i64 u)).2
end Go.Proofs.YtlaamecfknkmlaaGreat
