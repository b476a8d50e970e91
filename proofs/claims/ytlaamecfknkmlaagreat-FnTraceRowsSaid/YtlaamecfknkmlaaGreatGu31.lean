/- Merged texts: contracts and plain lemmas (Pg). -/
import Derived.Test.YtlaamecfknkmlaaGreatGu1
import Derived.BigFrame
/- Plain law: which words are programs; a stack of values of one cell each. No program in sight. -/
namespace Go.Kt
set_option linter.unusedVariables false
open Go.RowKit

/-- How many programs a word takes, -1 if it is none. -/
def tk (x : Int) : Int := if x = 15 ∨ (16 ≤ x ∧ x ≤ 18) then 0 else if x = 30 ∨ (100 ≤ x ∧ x ≤ 115) then 2 else if 200 ≤ x ∧ x ≤ 215 then 1 else -1
/-- How many programs there are behind the first k words; none if one word finds too few, or is none. -/
def mny (l : List Int) : Nat → Option Nat
  | 0 => some 0
  | k + 1 => match mny l k with
    | none => none
    | some m => if tk (nth l k) < 0 ∨ (m : Int) < tk (nth l k) then none else some (m - (tk (nth l k)).toNat + 1)
theorem mny_bad {l : List Int} {k m : Nat} (h : mny l k = some m) (hb : tk (nth l k) < 0 ∨ (m : Int) < tk (nth l k)) : mny l (k + 1) = none := by
  simp only [mny, h, if_pos hb]
theorem mny_good {l : List Int} {k m : Nat} (h : mny l k = some m) (hb : ¬ (tk (nth l k) < 0 ∨ (m : Int) < tk (nth l k))) : mny l (k + 1) = some (m - (tk (nth l k)).toNat + 1) := by
  simp only [mny, h, if_neg hb]
theorem mny_none {l : List Int} {k : Nat} (h : mny l k = none) : ∀ d, mny l (k + d) = none
  | 0 => h
  | d + 1 => by
    have := mny_none h d
    rw [← Nat.add_assoc]
    simp only [mny, this]
theorem mny_le {l : List Int} : ∀ {k m : Nat}, mny l k = some m → m ≤ k
  | 0, m, h => by simp [mny] at h; omega
  | k + 1, m, h => by
    cases hk : mny l k with
    | none => rw [show mny l (k + 1) = none by simp only [mny, hk]] at h; cases h
    | some q =>
      have hq := mny_le hk
      by_cases hb : tk (nth l k) < 0 ∨ (q : Int) < tk (nth l k)
      · rw [mny_bad hk hb] at h; cases h
      · rw [mny_good hk hb] at h
        have := Option.some.inj h
        omega
/-- A program is valid. -/
def pvB (l : List Int) : Bool := decide (1 ≤ l.length ∧ l.length ≤ 16) && decide (mny l l.length = some 1)
theorem pvB_none {l : List Int} {k : Nat} (hk : k ≤ l.length) (h : mny l k = none) : pvB l = false := by
  have := mny_none h (l.length - k)
  rw [show k + (l.length - k) = l.length by omega] at this
  simp [pvB, this]
theorem pvB_out {l : List Int} (h : ¬ (1 ≤ l.length ∧ l.length ≤ 16)) : pvB l = false := by
  unfold pvB; rw [decide_eq_false h]; rfl
theorem pvB_end {l : List Int} {m : Nat} (h : 1 ≤ l.length ∧ l.length ≤ 16) (hm : mny l l.length = some m) : pvB l = (m == 1) := by
  unfold pvB; rw [decide_eq_true h, hm, Bool.eq_iff_iff]; simp
/-- A value of an interface that is not nil. -/
def Held (x : Value) : Prop := ∃ t u, x = .iface t u
theorem own_trunc {w : World} {B E n cap g k : Nat} {xs : List Value} (h : w.ownsRow B E 1 (.slice (some ⟨g, 0, none⟩) n cap) n xs) (hk : k ≤ n) : w.ownsRow B E 1 (.slice (some ⟨g, 0, none⟩) k cap) k (xs.take k) := by
  have hl : xs.length = n * 1 := h.1
  rcases h.2 with ⟨hv, _⟩ | ⟨g', cap', cur, hv, hB, hg, hnc, hcm, hcs, htk⟩
  · simp at hv
  · obtain ⟨rfl, rfl⟩ : g = g' ∧ cap = cap' := by simpa using hv
    refine ⟨by rw [List.length_take]; omega, .inr ⟨g, cap, cur, rfl, hB, hg, by omega, hcm, hcs, ?_⟩⟩
    rw [← htk, List.take_take]
    congr 1
    omega
theorem own_capv {w : World} {B E n cap : Nat} {a : Option Addr} {xs : List Value} (h : w.ownsRow B E 1 (.slice a n cap) n xs) : n ≤ cap := by
  rcases h.2 with ⟨hv, _⟩ | ⟨g', cap', cur, hv, hB, hg, hnc, _⟩
  · have : a = none ∧ n = 0 ∧ cap = 0 := by simpa using hv
    omega
  · have : a = some ⟨g', 0, none⟩ ∧ cap = cap' := by simpa using hv
    omega
theorem own_shapev {w : World} {B E n : Nat} {v : Value} {xs : List Value} (h : w.ownsRow B E 1 v n xs) : ∃ a cap, v = .slice a n cap := by
  rcases h.2 with ⟨rfl, h0⟩ | ⟨g, cap, cur, rfl, _⟩
  · exact ⟨none, 0, by rw [h0]⟩
  · exact ⟨_, cap, rfl⟩
theorem own_headv {w : World} {B E n cap : Nat} {a : Option Addr} {xs : List Value} (h : w.ownsRow B E 1 (.slice a n cap) n xs) (hn : 0 < n) : ∃ g, a = some ⟨g, 0, none⟩ ∧ B ≤ g ∧ g < w.heap.size := by
  rcases h.2 with ⟨hv, h0⟩ | ⟨g, cap', cur, hv, hB, hg, _⟩
  · omega
  · have : a = some ⟨g, 0, none⟩ ∧ cap = cap' := by simpa using hv
    exact ⟨g, this.1, hB, (Array.getElem?_eq_some_iff.1 hg).1⟩
/-- append of one value of one cell. -/
theorem want_append_val {P : Program} {ops : Array Oper} {rest : List Oper} {o : Oper} {a : Act} {Q : Exit → Act → World → Prop} {w : World} (hw : Region.wanted o (yielded ops a.tmps) = true) (s x : Operand) (t : TypeId)
    (ho : o.op = .call { callee := .builtin .append, args := #[s, x], argTypes := #[t, t] }) (B E : Nat) (z : Value) (by' : Nat) (ht : P.underlying t = some (.slice E))
    (hinfo : (P.info? E).map (fun i => (i.zero, i.size, i.bytes)) = some (some z, 1, by')) (hz : z.cells.size = 1) (hby : by' ≤ 100)
    (v : Value) (n : Nat) (xs : List Value) (hs : a.eval s = v) (hown : w.ownsRow B E 1 v n xs) (g : Nat) (u : Value) (hx : a.eval x = .slice (some ⟨g, 0, none⟩) 1 1) (hcell : w.cell? ⟨g, 0, none⟩ = some u) (hu : u.oneCell' = true)
    (hlen : n + 1 ≤ 1099511627776) (hB : B ≤ w.heap.size)
    (h : ∀ v' w', w'.ownsRow B E 1 v' (n + 1) (xs ++ [u]) → w.grownBy w' v.ownBlock → wpList P ops Q rest (a.put o.dst v') w') : wpList P ops Q (o :: rest) a w := by
  obtain ⟨i, hi, hz0, hz1, hz2⟩ := info_parts hinfo
  refine BigFrame.wpList_want hw fun K hK' => ?_
  refine wp_append_own w s x t ho B E i z 1 by' ht hi hz0 hz1 hz2 hz (by decide) v n xs hs hown ⟨g, 0, none⟩ 1 1 [u] hx rfl ?_ ?_ (by unfold maxLen; omega) (Nat.le_trans (Nat.mul_le_mul (show n + 1 ≤ 1099511627776 from hlen) hby) (by decide)) hB ?_
  · intro j u' hj
    match j, hj with
    | 0, hj => simp at hj; subst hj; simpa [Addr.add] using hcell
    | j + 1, hj => simp at hj
  · intro u' hu'
    simp at hu'; subst hu'; exact hu
  · intro v' w' h1 h2 _
    exact hK' _ _ (h v' w' h1 h2)
theorem step_append_val {P : Program} {ops : Array Oper} {o : Oper} {a : Act} {K : Act → World → Prop} {Q : Exit → Act → World → Prop} {X : Prop} {w : World} (hgd : o.guard = none) (s x : Operand) (t : TypeId)
    (ho : o.op = .call { callee := .builtin .append, args := #[s, x], argTypes := #[t, t] }) (B E : Nat) (z : Value) (by' : Nat) (ht : P.underlying t = some (.slice E))
    (hinfo : (P.info? E).map (fun i => (i.zero, i.size, i.bytes)) = some (some z, 1, by')) (hz : z.cells.size = 1) (hby : by' ≤ 100)
    (v : Value) (n : Nat) (xs : List Value) (hs : a.eval s = v) (hown : w.ownsRow B E 1 v n xs) (g : Nat) (u : Value) (hx : a.eval x = .slice (some ⟨g, 0, none⟩) 1 1) (hcell : w.cell? ⟨g, 0, none⟩ = some u) (hu : u.oneCell' = true)
    (hlen : n + 1 ≤ 1099511627776) (hB : B ≤ w.heap.size)
    (h : ∀ v' w', w'.ownsRow B E 1 v' (n + 1) (xs ++ [u]) → w.grownBy w' v.ownBlock → K (a.put o.dst v') w') :
    if Region.wanted o (yielded ops a.tmps) = true then Oper.wp P o a w K Q else X := by
  have hw : Region.wanted o (yielded ops a.tmps) = true := by simp [Region.wanted, hgd]
  rw [if_pos hw]
  obtain ⟨i, hi, hz0, hz1, hz2⟩ := info_parts hinfo
  refine wp_append_own w s x t ho B E i z 1 by' ht hi hz0 hz1 hz2 hz (by decide) v n xs hs hown ⟨g, 0, none⟩ 1 1 [u] hx rfl ?_ ?_ (by unfold maxLen; omega) (Nat.le_trans (Nat.mul_le_mul (show n + 1 ≤ 1099511627776 from hlen) hby) (by decide)) hB ?_
  · intro j u' hj
    match j, hj with
    | 0, hj => simp at hj; subst hj; simpa [Addr.add] using hcell
    | j + 1, hj => simp at hj
  · intro u' hu'
    simp at hu'; subst hu'; exact hu
  · intro v' w' h1 h2 _
    exact h v' w' h1 h2
end Go.Kt
