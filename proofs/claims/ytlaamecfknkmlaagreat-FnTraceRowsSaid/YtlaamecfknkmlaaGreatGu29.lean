/- Merged texts: contracts and plain lemmas (Yh). -/
import Derived.Test.YtlaamecfknkmlaaGreatGu28
import Derived.Lib.SliceRun
import Derived.Deep.Upon
/- Contracts: neighbours that are equal are dropped; lists in order, each once. -/
namespace Go.Kt
set_option linter.unusedVariables false
/-- The first n lists, each but where it is as the one before. -/
def ddTo (ll : List (List Int)) : Nat → List (List Int)
  | 0 => []
  | n + 1 => ddTo ll n ++ if n ≠ 0 ∧ rowI ll n = rowI ll (n - 1) then [] else [rowI ll n]
theorem ddTo_same {ll : List (List Int)} {n : Nat} (h0 : 1 ≤ n) (h : rowI ll n = rowI ll (n - 1)) : ddTo ll (n + 1) = ddTo ll n := by
  show ddTo ll n ++ _ = _
  rw [if_pos ⟨by omega, h⟩, List.append_nil]
theorem ddTo_new {ll : List (List Int)} {n : Nat} (h : n = 0 ∨ rowI ll n ≠ rowI ll (n - 1)) : ddTo ll (n + 1) = ddTo ll n ++ [rowI ll n] := by
  show ddTo ll n ++ _ = _
  rw [if_neg (fun e => h.elim (fun h => e.1 h) (fun h => h e.2))]
theorem ddTo_take {ll : List (List Int)} : ∀ n, n ≤ ll.length → (∀ j, 1 ≤ j → j < n → rowI ll j ≠ rowI ll (j - 1)) → ddTo ll n = ll.take n
  | 0, _, _ => by simp [ddTo]
  | n + 1, hn, h => by
    rw [ddTo_new (by by_cases h0 : n = 0; exact .inl h0; exact .inr (h n (by omega) (by omega))), ddTo_take n (by omega) (fun j h1 h2 => h j h1 (by omega)), List.take_add_one, List.getElem?_eq_getElem (by omega), rowI_getElem _ _ (show n < ll.length by omega)]
    rfl
theorem dedup_snoc (x : List Int) : ∀ L : List (List Int), dedup (L ++ [x]) = dedup L ++ if L.getLast? = some x then [] else [x]
  | [] => by simp [dedup]
  | [y] => by
    show dedup [y, x] = _
    simp only [dedup]
    by_cases h : y = x
    · subst h; simp
    · rw [if_neg h]; simp [h]
  | y :: z :: M => by
    have ih := dedup_snoc x (z :: M)
    have e : (y :: z :: M).getLast? = (z :: M).getLast? := by simp
    rw [e]
    show dedup (y :: z :: (M ++ [x])) = _
    by_cases h : y = z
    · simp only [dedup, if_pos h]
      exact ih
    · simp only [dedup, if_neg h]
      have ih' : dedup (z :: (M ++ [x])) = _ := ih
      rw [ih']; rfl
theorem ddTo_end (ll : List (List Int)) : ∀ n, n ≤ ll.length → ddTo ll n = dedup (ll.take n)
  | 0, _ => by simp [ddTo, dedup]
  | n + 1, hn => by
    have ih := ddTo_end ll n (by omega)
    have e : ll.take (n + 1) = ll.take n ++ [rowI ll n] := by
      rw [List.take_add_one, List.getElem?_eq_getElem (by omega), rowI_getElem _ _ (show n < ll.length by omega)]; rfl
    rw [e, dedup_snoc, ← ih]
    show ddTo ll n ++ _ = _
    congr 1
    by_cases h0 : n = 0
    · subst h0; simp
    · have hl : (ll.take n).getLast? = some (rowI ll (n - 1)) := by
        rw [List.getLast?_eq_getElem?, List.length_take, Nat.min_eq_left (by omega), List.getElem?_take_of_lt (by omega), List.getElem?_eq_getElem (by omega), rowI_getElem _ _ (show n - 1 < ll.length by omega)]
      rw [hl]
      by_cases h : rowI ll n = rowI ll (n - 1)
      · rw [if_pos ⟨h0, h⟩, if_pos (by rw [h])]
      · rw [if_neg (fun e => h e.2), if_neg (fun e => h (Option.some.inj e).symm)]
theorem dedup_short {ll : List (List Int)} (h : ll.length < 2) : dedup ll = ll := by
  match ll, h with
  | [], _ => rfl
  | [x], _ => rfl
/-- A row is stored. -/
theorem OwnLs.put {w : World} {B : Nat} {E : Ek} {ER g cap k ci : Nat} {ll : List (List Int)} {ai : Option Addr} {l : List Int} (hE : E.t ≠ ER) (h : OwnLs w B E ER (.slice (some ⟨g, 0, none⟩) ll.length cap) ll) (hu : IntsE w E ai l) (hc : l.length ≤ ci) :
    OwnLs (w.setCell ⟨g, k, none⟩ (.slice ai l.length ci)) B E ER (.slice (some ⟨g, 0, none⟩) ll.length cap) (ll.set k l) ∧ w.grownBy (w.setCell ⟨g, k, none⟩ (.slice ai l.length ci)) (some g) := by
  have hty := h.typed
  obtain ⟨vs, h1, h2⟩ := h
  have hs := World.ownsRow.stored h1 k (.slice ai l.length ci)
  refine ⟨⟨vs.set k (.slice ai l.length ci), by rw [List.length_set]; exact hs.1, by rw [List.length_set, List.length_set]; exact h2.1, fun i hi => ?_⟩, hs.2⟩
  rw [List.length_set] at hi
  have hk := fun (a : Option Addr) (m : List Int) (h : IntsE w E a m) => h.kept hs.2 hty hE
  by_cases hik : k = i
  · subst hik
    refine ⟨ai, ci, ?_, ?_, ?_⟩
    · rw [rowI_getElem _ _ (by rw [List.length_set]; exact hi), List.getElem?_set]
      simp [h2.1, hi]
    · rw [rowI_getElem _ _ (by rw [List.length_set]; exact hi)]; simpa using hc
    · rw [rowI_getElem _ _ (by rw [List.length_set]; exact hi)]; simpa using hk _ _ hu
  · obtain ⟨a, c, k1, k2, k3⟩ := h2.2 i hi
    have e : rowI (ll.set k l) i = rowI ll i := by
      rw [rowI_getElem _ _ (by rw [List.length_set]; exact hi), rowI_getElem _ _ hi, List.getElem_set_ne (by omega)]
    rw [e]
    exact ⟨a, c, by rw [List.getElem?_set_ne (by omega)]; exact k1, k2, hk _ _ k3⟩
/-- The slice is cut behind its first places. -/
theorem OwnLs.cut {w : World} {B : Nat} {E : Ek} {ER g cap : Nat} {xs ys : List (List Int)} (h : OwnLs w B E ER (.slice (some ⟨g, 0, none⟩) (xs ++ ys).length cap) (xs ++ ys)) : OwnLs w B E ER (.slice (some ⟨g, 0, none⟩) xs.length cap) xs := by
  obtain ⟨vs, h1, h2⟩ := h
  have hv := h2.1
  rw [List.length_append] at hv
  obtain ⟨hl, hc⟩ := h1
  rcases hc with ⟨hv', _⟩ | ⟨g', cap', cur, hv', hB, hg, hn, hcm, hs, ht⟩
  · simp at hv'
  · obtain ⟨rfl, rfl⟩ : g = g' ∧ cap = cap' := by simp at hv'; exact ⟨hv'.1, hv'.2⟩
    rw [List.length_append] at hn
    refine ⟨vs.take xs.length, ⟨by rw [List.length_take, hv]; omega, .inr ⟨g, cap, cur, rfl, hB, hg, by omega, hcm, hs, ?_⟩⟩, by rw [List.length_take, hv]; omega, fun i hi => ?_⟩
    · rw [← ht, List.take_take, Nat.mul_one, List.length_append, Nat.mul_one, Nat.min_eq_left (by omega)]
    · obtain ⟨a, c, k1, k2, k3⟩ := h2.2 i (by rw [List.length_append]; omega)
      rw [rowI_left hi] at k1 k2 k3
      exact ⟨a, c, by rw [List.getElem?_take_of_lt hi]; exact k1, k2, k3⟩
/-- Cells behind the slice are written. -/
theorem OwnLs.tail {B : Nat} {E : Ek} {ER g cap : Nat} {ll : List (List Int)} (hE : E.t ≠ ER) : ∀ (zs : List Value) (o : Nat) (w : World), ll.length ≤ o → OwnLs w B E ER (.slice (some ⟨g, 0, none⟩) ll.length cap) ll →
    OwnLs (w.setCells g o zs) B E ER (.slice (some ⟨g, 0, none⟩) ll.length cap) ll ∧ w.grownBy (w.setCells g o zs) (some g)
  | [], o, w, _, h => ⟨h, (Ext.refl w).grown _⟩
  | z :: zs, o, w, ho, h => by
    have hty := h.typed
    obtain ⟨vs, h1, h2⟩ := h
    have hs := World.ownsRow.stored h1 o z
    have e : vs.set o z = vs := List.set_eq_of_length_le (by rw [h2.1]; exact ho)
    rw [e] at hs
    have := OwnLs.tail (B := B) (cap := cap) hE zs (o + 1) (w.setCell ⟨g, o, none⟩ z) (by omega) ⟨vs, hs.1, h2.kept hs.2 hty hE⟩
    refine ⟨this.1, ?_⟩
    have a := hs.2
    have b := this.2
    exact ⟨b.os.trans a.os, b.tape.trans a.tape, b.output.trans a.output, Nat.le_trans a.size b.size, fun k hk hne => (b.block k (Nat.lt_of_lt_of_le hk a.size) hne).trans (a.block k hk hne)⟩
theorem grown_trans {w w' w'' : World} {row : Option Nat} (a : w.grownBy w' row) (b : w'.grownBy w'' row) : w.grownBy w'' row :=
  ⟨b.os.trans a.os, b.tape.trans a.tape, b.output.trans a.output, Nat.le_trans a.size b.size, fun k hk hne => (b.block k (Nat.lt_of_lt_of_le hk a.size) hne).trans (a.block k hk hne)⟩
/-- While equal neighbours are dropped. -/
structure CompSt (w wr : World) (B : Nat) (E : Ek) (ER g cap k j : Nat) (ll : List (List Int)) : Prop where
  own : OwnLs wr B E ER (.slice (some ⟨g, 0, none⟩) ll.length cap) (ddTo ll j ++ ll.drop k)
  len : (ddTo ll j).length = k
  kj : k < j
  jn : j ≤ ll.length
  gr : w.grownBy wr (some g)
end Go.Kt
