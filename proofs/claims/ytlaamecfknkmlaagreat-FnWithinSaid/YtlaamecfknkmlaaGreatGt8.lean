/- Merged texts: contracts and plain lemmas (Sf, Sg, Sh, Se, Si0). -/
import Derived.Test.YtlaamecfknkmlaaGreatGt1
import Derived.Test.YtlaamecfknkmlaaGreatGt3
import Derived.BigQuiet
import Derived.Test.YtlaamecfknkmlaaGreatGt4
import Derived.Lib.SliceRun
import Derived.Deep.Upon
import Derived.Test.YtlaamecfknkmlaaGreatGt2
import Derived.Deep.RegionHeld3
import Derived.Deep.RegionLaw
import Derived.Test.YtlaamecfknkmlaaGreatGt12
namespace Go.Kt
set_option linter.unusedVariables false
theorem nth_cons (x : Int) (l : List Int) (j : Nat) : nth (x :: l) (j + 1) = nth l j := by simp [nth]
theorem ltL_at : ∀ {a b : List Int} {k : Nat}, (∀ j, j < k → nth a j = nth b j) → k < a.length → k < b.length → nth a k ≠ nth b k → ltL a b = decide (nth a k < nth b k)
  | x :: a, y :: b, 0, _, _, _, hne => by
    have hne : x ≠ y := hne
    show (if x < y then true else if y < x then false else ltL a b) = decide (x < y)
    by_cases h : x < y
    · rw [if_pos h, decide_eq_true h]
    · rw [if_neg h, if_pos (by omega), decide_eq_false h]
  | x :: a, y :: b, k + 1, h, h1, h2, hne => by
    have h0 : x = y := h 0 (by omega)
    have ih := ltL_at (a := a) (b := b) (k := k) (fun j hj => by have := h (j + 1) (by omega); rwa [nth_cons, nth_cons] at this) (by simpa using h1) (by simpa using h2) (by rwa [nth_cons, nth_cons] at hne)
    show (if x < y then true else if y < x then false else ltL a b) = _
    rw [if_neg (by omega), if_neg (by omega), ih, nth_cons, nth_cons]
  | [], _, _, _, h1, _, _ => by simp at h1
  | _ :: _, [], _, _, _, h2, _ => by simp at h2
theorem ltL_end : ∀ {a b : List Int} {k : Nat}, (∀ j, j < k → nth a j = nth b j) → k ≤ a.length → k ≤ b.length → ¬ (k < a.length ∧ k < b.length) → ltL a b = decide (a.length < b.length)
  | [], [], _, _, _, _, _ => rfl
  | [], _ :: _, _, _, _, _, _ => by simp [ltL]
  | _ :: _, [], _, _, _, _, _ => by simp [ltL]
  | x :: a, y :: b, 0, _, _, _, hn => absurd ⟨by simp, by simp⟩ hn
  | x :: a, y :: b, k + 1, h, h1, h2, hn => by
    have h0 : x = y := h 0 (by omega)
    have ih := ltL_end (a := a) (b := b) (k := k) (fun j hj => by have := h (j + 1) (by omega); rwa [nth_cons, nth_cons] at this) (by simpa using h1) (by simpa using h2) (fun hh => hn ⟨by simpa using hh.1, by simpa using hh.2⟩)
    show (if x < y then true else if y < x then false else ltL a b) = _
    rw [if_neg (by omega), if_neg (by omega), ih]
    simp
theorem eqL_at {a b : List Int} {k : Nat} (hne : nth a k ≠ nth b k) : decide (a = b) = false := decide_eq_false fun e => hne (by rw [e])
theorem eqL_end {a b : List Int} {k : Nat} (h : ∀ j, j < k → nth a j = nth b j) (h1 : k ≤ a.length) (h2 : k ≤ b.length) (hn : ¬ (k < a.length ∧ k < b.length)) : decide (a = b) = decide (a.length = b.length) := by
  by_cases hl : a.length = b.length
  · rw [decide_eq_true hl]
    exact decide_eq_true (ext_nth a b hl fun j hj => h j (by omega))
  · rw [decide_eq_false hl]
    exact decide_eq_false fun e => hl (by rw [e])
end Go.Kt
namespace Go.Proofs.YtlaamecfknkmlaaGreat
set_option linter.unusedVariables false
open Go.RowKit Go.Kt
set_option maxHeartbeats 1000000 in
theorem l1Same_c (a1 a2 : Option Addr) (c1 c2 : Nat) (l1 l2 : List Int) (w : World) (h1 : IntsAt w a1 l1) (h2 : IntsAt w a2 l2) (hl1 : l1.length ≤ 4611686018427387904) (hl2 : l2.length ≤ 4611686018427387904) :
    Calls Tryz.prog 160 #[.slice a1 l1.length c1, .slice a2 l2.length c2] w fun e w' => e = .returned (.bool (decide (l1 = l2))) ∧ Ext w w' := by
  obtain ⟨b1, o1, p1, q1⟩ := h1
  obtain ⟨b2, o2, p2, q2⟩ := h2
  have P1 := Lib.hid p1
  have Q1 := Lib.hid q1
  have P2 := Lib.hid p2
  have Q2 := Lib.hid q2
  have HAt : Hid (∀ k, nth l1 k ≠ nth l2 k → decide (l1 = l2) = false) := fun k h => eqL_at h
  have HEnd : Hid (∀ k, (∀ j, j < k → nth l1 j = nth l2 j) → k ≤ l1.length → k ≤ l2.length → ¬ (k < l1.length ∧ k < l2.length) → decide (l1 = l2) = decide (l1.length = l2.length)) := fun k h i j m => eqL_end h i j m
  clear p1 q1 p2 q2
  generalize hF : decide (l1 = l2) = F at *
  clear hF
  go_enter Tryz.func160, Tryz.ntmps160
  go_wp2
  go_loopw [5] (fun i wr => Hid (∃ (k m : Nat), k ≤ l1.length ∧ k ≤ l2.length ∧ i = .int .i64 k ∧ (∀ j, j < k → nth l1 j = nth l2 j) ∧ wr = w.drewN m)) (fun i _ => l1.length - (intOf i).toNat)
  case atStart => exact Lib.hid ⟨0, 0, Nat.zero_le _, Nat.zero_le _, rfl, fun j hj => absurd hj (Nat.not_lt_zero _), rfl⟩
  case round =>
    obtain ⟨k, m, hk1, hk2, rfl, heq, rfl⟩ := hrel.out
    have HEq := Lib.hid heq
    clear hrel heq
    by_cases hb : k < l1.length ∧ k < l2.length
    · obtain ⟨hb1, hb2⟩ := hb
      obtain ⟨rfl, z1⟩ := P1.out (by omega)
      obtain ⟨rfl, z2⟩ := P2.out (by omega)
      have d1 := Q1.out k hb1
      have d2 := Q2.out k hb2
      have hi1 : (k : Int) < (l1.length : Int) := by omega
      have hi2 : (k : Int) < (l2.length : Int) := by omega
      by_cases hne : nth l1 k = nth l2 k
      · have HE2 : Hid (∀ j, j < k + 1 → nth l1 j = nth l2 j) := fun j hj => by
          by_cases e : j = k
          · subst e; exact hne
          · exact HEq.out j (by omega)
        rw [hne] at d1
        clear hne HEq
        generalize nth l2 k = x at *
        go_wp2
        go_quiet (fail)
        go_wp2
        go_roundw
        case rel => exact Lib.hid ⟨k + 1, _, by omega, by omega, by go_num, HE2.out, rfl⟩
        case measure => simp [intOf]; omega
      · have HF2 := Lib.hid (HAt.out k hne)
        have hx : (nth l1 k != nth l2 k) = true := by simpa using hne
        clear hne
        generalize nth l1 k = x at *
        generalize nth l2 k = y at *
        go_wp2
        go_quiet (fail)
        go_wp2
        go_ret
        exact ⟨by rw [HF2.out]; rfl, by (repeat (first | exact Ext.refl _ | assumption | refine Ext.alloc ?_ _ | refine Ext.drewN ?_ _ | refine Ext.drew ?_))⟩
    · have HF2 := Lib.hid (HEnd.out k HEq.out hk1 hk2 hb)
      have hi : ¬ ((k : Int) < (l1.length : Int) ∧ (k : Int) < (l2.length : Int)) := by omega
      have hq : ((l1.length : Int) == (l2.length : Int)) = decide (l1.length = l2.length) := by
        by_cases h : l1.length = l2.length
        · rw [h]; simp
        · rw [decide_eq_false h]; simp; omega
      clear HEq HAt HEnd
      by_cases hb1 : k < l1.length
      all_goals
        go_wp2
        go_ret
        exact ⟨by rw [HF2.out, ← hq]; rfl, by (repeat (first | exact Ext.refl _ | assumption | refine Ext.alloc ?_ _ | refine Ext.drewN ?_ _ | refine Ext.drew ?_))⟩
set_option maxHeartbeats 1000000 in
theorem l1Less_c (a1 a2 : Option Addr) (c1 c2 : Nat) (l1 l2 : List Int) (w : World) (h1 : IntsAt w a1 l1) (h2 : IntsAt w a2 l2) (hl1 : l1.length ≤ 4611686018427387904) (hl2 : l2.length ≤ 4611686018427387904) :
    Calls Tryz.prog 108 #[.slice a1 l1.length c1, .slice a2 l2.length c2] w fun e w' => e = .returned (.bool (ltL l1 l2)) ∧ Ext w w' := by
  obtain ⟨b1, o1, p1, q1⟩ := h1
  obtain ⟨b2, o2, p2, q2⟩ := h2
  have P1 := Lib.hid p1
  have Q1 := Lib.hid q1
  have P2 := Lib.hid p2
  have Q2 := Lib.hid q2
  have HAt : Hid (∀ k, (∀ j, j < k → nth l1 j = nth l2 j) → k < l1.length → k < l2.length → nth l1 k ≠ nth l2 k → ltL l1 l2 = decide (nth l1 k < nth l2 k)) := fun k h i j m => ltL_at h i j m
  have HEnd : Hid (∀ k, (∀ j, j < k → nth l1 j = nth l2 j) → k ≤ l1.length → k ≤ l2.length → ¬ (k < l1.length ∧ k < l2.length) → ltL l1 l2 = decide (l1.length < l2.length)) := fun k h i j m => ltL_end h i j m
  clear p1 q1 p2 q2
  generalize hF : ltL l1 l2 = F at *
  clear hF
  go_enter Tryz.func108, Tryz.ntmps108
  go_wp2
  go_loopw [5] (fun i wr => Hid (∃ (k m : Nat), k ≤ l1.length ∧ k ≤ l2.length ∧ i = .int .i64 k ∧ (∀ j, j < k → nth l1 j = nth l2 j) ∧ wr = w.drewN m)) (fun i _ => l1.length - (intOf i).toNat)
  case atStart => exact Lib.hid ⟨0, 0, Nat.zero_le _, Nat.zero_le _, rfl, fun j hj => absurd hj (Nat.not_lt_zero _), rfl⟩
  case round =>
    obtain ⟨k, m, hk1, hk2, rfl, heq, rfl⟩ := hrel.out
    have HEq := Lib.hid heq
    clear hrel heq
    by_cases hb : k < l1.length ∧ k < l2.length
    · obtain ⟨hb1, hb2⟩ := hb
      obtain ⟨rfl, z1⟩ := P1.out (by omega)
      obtain ⟨rfl, z2⟩ := P2.out (by omega)
      have d1 := Q1.out k hb1
      have d2 := Q2.out k hb2
      have hi1 : (k : Int) < (l1.length : Int) := by omega
      have hi2 : (k : Int) < (l2.length : Int) := by omega
      by_cases hne : nth l1 k = nth l2 k
      · have HE2 : Hid (∀ j, j < k + 1 → nth l1 j = nth l2 j) := fun j hj => by
          by_cases e : j = k
          · subst e; exact hne
          · exact HEq.out j (by omega)
        rw [hne] at d1
        clear hne HEq
        generalize nth l2 k = x at *
        go_wp2
        go_quiet (fail)
        go_wp2
        go_roundw
        case rel => exact Lib.hid ⟨k + 1, _, by omega, by omega, by go_num, HE2.out, rfl⟩
        case measure => simp [intOf]; omega
      · have HF2 := Lib.hid (HAt.out k HEq.out hb1 hb2 hne)
        have hx : (nth l1 k != nth l2 k) = true := by simpa using hne
        clear hne HAt HEnd
        generalize nth l1 k = x at *
        generalize nth l2 k = y at *
        go_wp2
        go_quiet (fail)
        go_wp2
        go_quiet (fail)
        go_wp2
        go_ret
        exact ⟨by rw [HF2.out]; rfl, by (repeat (first | exact Ext.refl _ | assumption | refine Ext.alloc ?_ _ | refine Ext.drewN ?_ _ | refine Ext.drew ?_))⟩
    · have HF2 := Lib.hid (HEnd.out k HEq.out hk1 hk2 hb)
      have hi : ¬ ((k : Int) < (l1.length : Int) ∧ (k : Int) < (l2.length : Int)) := by omega
      have hq : (decide ((l1.length : Int) < (l2.length : Int))) = decide (l1.length < l2.length) := by
        by_cases h : l1.length < l2.length
        · rw [decide_eq_true h]; exact decide_eq_true (by omega)
        · rw [decide_eq_false h]; exact decide_eq_false (by omega)
      clear HEq HAt HEnd
      by_cases hb1 : k < l1.length
      all_goals
        go_wp2
        go_ret
        exact ⟨by rw [HF2.out]; simp, by (repeat (first | exact Ext.refl _ | assumption | refine Ext.alloc ?_ _ | refine Ext.drewN ?_ _ | refine Ext.drew ?_))⟩
set_option maxHeartbeats 1000000 in
theorem l4Behind_c (a b : Option Addr) (c d : Nat) (l m : List Int) (w : World) (hl : IntsAt w a l) (hm : IntsAt w b m) (h3 : l.length ≤ 8192) (h4 : m.length ≤ 8192) :
    Calls Tryz.prog 159 #[.slice a l.length c, .slice b m.length d] w (RetI 3 w (behindL l m)) := by
  have HL := Lib.hid hl
  have HM := Lib.hid hm
  have CS : Hid (∀ w' g, Ext w w' → IntsAt w' (some ⟨g, 0, none⟩) [15] → Calls Tryz.prog 160 #[.slice a l.length c, .slice (some ⟨g, 0, none⟩) 1 1] w' fun e w'' => e = .returned (.bool (decide (l = [15]))) ∧ Ext w' w'') := fun w' g x i => l1Same_c a (some ⟨g, 0, none⟩) c 1 l [15] w' (HL.out.ext x) i (by omega) (by simp)
  have CJ : Hid (∀ w', Ext w w' → Calls Tryz.prog 113 #[.slice a l.length c, .slice b m.length d, .int .i64 19] w' (RetI 3 w' (l ++ m ++ [19]))) := fun w' x => l2Join_c a b c d l m 19 w' (HL.out.ext x) (HM.out.ext x) (by omega) (by omega)
  by_cases h : l = [15]
  · have HF : Hid (behindL l m = m) := by unfold Hid behindL; rw [if_pos h]
    rw [decide_eq_true h] at CS
    clear h hl hm CJ
    generalize l.length = nl at *
    go_enter Tryz.func159, Tryz.ntmps159
    go_wp2_with fail
    refine (CS.out _ _ (by (repeat (first | exact Ext.refl _ | assumption | refine Ext.alloc ?_ _ | refine Ext.drewN ?_ _ | refine Ext.drew ?_))) ((OwnI.lit1 _ _ _ _ (Nat.le_refl _)).ints)).mono ?_
    rintro e w1 ⟨rfl, x1⟩
    have X1 := Lib.hid (Ext.trans (show Ext w _ by (repeat (first | exact Ext.refl _ | assumption | refine Ext.alloc ?_ _ | refine Ext.drewN ?_ _ | refine Ext.drew ?_))) x1)
    clear x1
    go_wp2_with (at_builtin; refine any_append_ints (by rfl) _ _ _ rfl (w1.heap.size) 3 Tryz.underlying23 infoInt _ ([]) rfl (by first | exact OwnI.empty _ _ | exact (OwnI.empty _ _).ext (by (repeat (first | exact Ext.refl _ | assumption | refine Ext.alloc ?_ _ | refine Ext.drewN ?_ _ | refine Ext.drew ?_)))) _ _ (m) rfl (HM.out.ext (X1.out.trans (by (repeat (first | exact Ext.refl _ | assumption | refine Ext.alloc ?_ _ | refine Ext.drewN ?_ _ | refine Ext.drew ?_))))) (by first | omega | (simp; omega)) (by first | omega | (simp; done) | (simp; omega)) ?_)
    intro v7 w7 o7 g7
    have hz := X1.out.size
    have X7 := Lib.hid (Ext.trans X1.out (OwnI.grown (w0 := w1) (by first | exact OwnI.empty _ _ | exact (OwnI.empty _ _).ext (by (repeat (first | exact Ext.refl _ | assumption | refine Ext.alloc ?_ _ | refine Ext.drewN ?_ _ | refine Ext.drew ?_)))) (by (repeat (first | exact Ext.refl _ | assumption | refine Ext.alloc ?_ _ | refine Ext.drewN ?_ _ | refine Ext.drew ?_))) g7))
    have O7 := Lib.hid (OwnI.mono o7 hz)
    clear o7 g7
    go_wp2
    go_ret
    exact ⟨v7, rfl, by rw [HF.out]; exact O7.out, X7.out⟩
  · have HF : Hid (behindL l m = l ++ m ++ [19]) := by unfold Hid behindL; rw [if_neg h]
    rw [decide_eq_false h] at CS
    clear h hl hm
    generalize l ++ m ++ [19] = R at *
    generalize l.length = nl at *
    generalize m.length = nm at *
    go_enter Tryz.func159, Tryz.ntmps159
    go_wp2_with fail
    refine (CS.out _ _ (by (repeat (first | exact Ext.refl _ | assumption | refine Ext.alloc ?_ _ | refine Ext.drewN ?_ _ | refine Ext.drew ?_))) ((OwnI.lit1 _ _ _ _ (Nat.le_refl _)).ints)).mono ?_
    rintro e w1 ⟨rfl, x1⟩
    have X1 := Lib.hid (Ext.trans (show Ext w _ by (repeat (first | exact Ext.refl _ | assumption | refine Ext.alloc ?_ _ | refine Ext.drewN ?_ _ | refine Ext.drew ?_))) x1)
    clear x1
    go_wp2_with fail
    refine (CJ.out _ (X1.out.trans (by (repeat (first | exact Ext.refl _ | assumption | refine Ext.alloc ?_ _ | refine Ext.drewN ?_ _ | refine Ext.drew ?_))))).mono ?_
    rintro e w2 ⟨v2, rfl, o2, x2⟩
    have X2 := Lib.hid (X1.out.trans (Ext.trans (by (repeat (first | exact Ext.refl _ | assumption | refine Ext.alloc ?_ _ | refine Ext.drewN ?_ _ | refine Ext.drew ?_))) x2))
    have hz := X1.out.size
    have O2 := Lib.hid (OwnI.mono o2 (B' := w.heap.size) (by (try simp); omega))
    clear x2 o2
    go_wp2
    go_ret
    exact ⟨v2, rfl, by rw [HF.out]; exact O2.out.ext (by (repeat (first | exact Ext.refl _ | assumption | refine Ext.alloc ?_ _ | refine Ext.drewN ?_ _ | refine Ext.drew ?_))), X2.out.trans (by (repeat (first | exact Ext.refl _ | assumption | refine Ext.alloc ?_ _ | refine Ext.drewN ?_ _ | refine Ext.drew ?_)))⟩
end Go.Proofs.YtlaamecfknkmlaaGreat
namespace Go.Kt
set_option linter.unusedVariables false
theorem rowI_cons (x : List Int) (L : List (List Int)) (j : Nat) : rowI (x :: L) (j + 1) = rowI L j := by simp [rowI]
theorem insL_there : ∀ {L : List (List Int)} {t : List Int} {k : Nat}, (∀ j, j < k → ltL (rowI L j) t = true) → k < L.length → rowI L k = t → insL t L = L
  | y :: L, t, 0, _, _, he => by
    have he : y = t := he
    subst he
    unfold insL
    rw [ltL_irr]; simp
  | y :: L, t, k + 1, h, hk, he => by
    have h0 : ltL y t = true := h 0 (by omega)
    have ih := insL_there (L := L) (t := t) (k := k) (fun j hj => by have := h (j + 1) (by omega); rwa [rowI_cons] at this) (by simpa using hk) (by rwa [rowI_cons] at he)
    unfold insL
    rw [if_pos h0, ih]
  | [], _, _, _, hk, _ => by simp at hk
theorem insL_new : ∀ {L : List (List Int)} {t : List Int} {k : Nat}, (∀ j, j < k → ltL (rowI L j) t = true) → k ≤ L.length → (k < L.length → ltL (rowI L k) t = false ∧ rowI L k ≠ t) → insL t L = L.take k ++ [t] ++ L.drop k
  | [], t, 0, _, _, _ => rfl
  | [], t, k + 1, _, hk, _ => by simp at hk
  | y :: L, t, 0, _, _, hn => by
    obtain ⟨h1, h2⟩ := hn (by simp)
    have h1 : ltL y t = false := h1
    have h2 : y ≠ t := h2
    unfold insL
    have h3 : ¬ t = y := fun e => h2 e.symm
    rw [h1, if_neg (by simp), if_neg h3]
    rfl
  | y :: L, t, k + 1, h, hk, hn => by
    have h0 : ltL y t = true := h 0 (by omega)
    have ih := insL_new (L := L) (t := t) (k := k) (fun j hj => by have := h (j + 1) (by omega); rwa [rowI_cons] at this) (by simpa using hk) (fun hl => by have := hn (by simpa using hl); rwa [rowI_cons] at this)
    unfold insL
    rw [if_pos h0, ih]
    rfl
theorem RowsV.take {w : World} {E : Ek} {vs : List Value} {ll : List (List Int)} (h : RowsV w E vs ll) (k : Nat) : RowsV w E (vs.take k) (ll.take k) := by
  refine ⟨by rw [List.length_take, List.length_take, h.1], fun i hi => ?_⟩
  rw [List.length_take] at hi
  obtain ⟨a, c, h1, h2, h3⟩ := h.2 i (by omega)
  have e : rowI (ll.take k) i = rowI ll i := by
    rw [rowI_getElem _ _ (by rw [List.length_take]; omega), rowI_getElem _ _ (by omega)]; simp
  rw [e]
  exact ⟨a, c, by rw [List.getElem?_take, if_pos (by omega)]; exact h1, h2, h3⟩
theorem RowsV.drop {w : World} {E : Ek} {vs : List Value} {ll : List (List Int)} (h : RowsV w E vs ll) (k : Nat) : RowsV w E (vs.drop k) (ll.drop k) := by
  refine ⟨by rw [List.length_drop, List.length_drop, h.1], fun i hi => ?_⟩
  rw [List.length_drop] at hi
  obtain ⟨a, c, h1, h2, h3⟩ := h.2 (k + i) (by omega)
  have e : rowI (ll.drop k) i = rowI ll (k + i) := by
    rw [rowI_getElem _ _ (by rw [List.length_drop]; omega), rowI_getElem _ _ (by omega)]; simp
  rw [e]
  exact ⟨a, c, by rw [List.getElem?_drop]; exact h1, h2, h3⟩
/-- A slice of slices of the call's own, cut in two. -/
theorem OwnLs.halves {w : World} {B : Nat} {E : Ek} {ER g n cap : Nat} {ll : List (List Int)} (h : OwnLs w B E ER (.slice (some ⟨g, 0, none⟩) n cap) ll) (k : Nat) :
    ∃ vs us, SrcLs w E (some ⟨g, 0, none⟩) vs (ll.take k) ∧ SrcLs w E (some ⟨g, k, none⟩) us (ll.drop k) := by
  obtain rfl := h.len
  obtain ⟨vs, h1, h2⟩ := h
  refine ⟨vs.take k, vs.drop k, ⟨h2.take k, fun _ => ⟨g, 0, rfl, fun j u hj => ?_⟩⟩, ⟨h2.drop k, fun _ => ⟨g, k, rfl, fun j u hj => ?_⟩⟩⟩
  · rw [List.getElem?_take] at hj
    split at hj
    · have hjl : j < ll.length := by have := (List.getElem?_eq_some_iff.1 hj).1; have := h2.1; omega
      rw [Nat.zero_add, World.ownsRow.cellAt h1 j (by omega)]; exact hj
    · cases hj
  · rw [List.getElem?_drop] at hj
    have hjl : k + j < ll.length := by have := (List.getElem?_eq_some_iff.1 hj).1; have := h2.1; omega
    rw [World.ownsRow.cellAt h1 (k + j) (by omega)]; exact hj
theorem OwnLs.empty (w : World) (E : Ek) (ER : Nat) : OwnLs (w.alloc (.cells #[] ER)) w.heap.size E ER (.slice (some ⟨w.heap.size, 0, none⟩) 0 0) [] :=
  ⟨[], World.ownsRow_lit (base := w.heap.size) (e := ER) (size := 1) w #[] 0 (Nat.le_refl _) (by unfold maxLen; omega) rfl, RowsV.nil _ _⟩
theorem OwnLs.empty' {w : World} {b : Nat} (hb : w.heap.size = b) (E : Ek) (ER : Nat) : OwnLs (w.alloc (.cells #[] ER)) b E ER (.slice (some ⟨b, 0, none⟩) 0 0) [] := by subst hb; exact OwnLs.empty w E ER
/-- Where a list of lists of the call's own lies. -/
theorem OwnLs.lies {w : World} {B : Nat} {E : Ek} {ER n cap : Nat} {a : Option Addr} {ll : List (List Int)} (h : OwnLs w B E ER (.slice a n cap) ll) : (a = none ∧ n = 0 ∧ cap = 0) ∨ ∃ g, a = some ⟨g, 0, none⟩ := by
  obtain ⟨vs, h1, _⟩ := h
  rcases h1.2 with ⟨hv, _⟩ | ⟨g', cap', cur, hv, _⟩
  · simp at hv; exact .inl hv
  · simp at hv; exact .inr ⟨g', hv.1⟩
theorem OwnLs.fitC {w : World} {B : Nat} {E : Ek} {ER n cap : Nat} {a : Option Addr} {ll : List (List Int)} (h : OwnLs w B E ER (.slice a n cap) ll) : n ≤ cap := by
  obtain ⟨vs, h1, _⟩ := h
  rcases h1.2 with ⟨hv, _⟩ | ⟨g', cap', cur, hv, _, _, hn', _⟩
  · simp at hv; omega
  · simp at hv; omega
end Go.Kt
namespace Go.Proofs.YtlaamecfknkmlaaGreat
set_option linter.unusedVariables false
open Go.RowKit Go.Kt
/-- What a call that lays a list into a list of lists comes to. -/
def RetAdd (w : World) (B : Nat) (ll : List (List Int)) (e : Ending) (w' : World) : Prop := ∃ v, e = .returned v ∧ OwnLs w' B (ek 3) 23 v ll ∧ Ext w w'
set_option maxRecDepth 100000 in
set_option maxHeartbeats 2000000 in
theorem l3Add_c (B : Nat) (a b : Option Addr) (c d : Nat) (L : List (List Int)) (t : List Int) (w : World) (ho : OwnLs w B (ek 3) 23 (.slice a L.length c) L) (ht : IntsE w (ek 3) b t) (htd : t.length ≤ d) (hL : L.length ≤ 1000000) (hr : ∀ i, i < L.length → (rowI L i).length ≤ 1000000) (ht2 : t.length ≤ 1000000) (hB : B ≤ w.heap.size) :
    Calls Tryz.prog 158 #[.slice a L.length c, .slice b t.length d] w (RetAdd w B (insL t L)) := by
  have HO := Lib.hid ho
  have HT := Lib.hid ht
  have hfit := ho.fitC
  have HThere : Hid (∀ k, (∀ j, j < k → ltL (rowI L j) t = true) → k < L.length → rowI L k = t → RetAdd w B (insL t L) = RetAdd w B L) := fun k h1 h2 h3 => by rw [insL_there h1 h2 h3]
  have HNew : Hid (∀ k, (∀ j, j < k → ltL (rowI L j) t = true) → k ≤ L.length → (k < L.length → ltL (rowI L k) t = false ∧ rowI L k ≠ t) → RetAdd w B (insL t L) = RetAdd w B (L.take k ++ [t] ++ L.drop k)) := fun k h1 h2 h3 => by rw [insL_new h1 h2 h3]
  have CL : Hid (∀ w' k ai ci, Ext w w' → k < L.length → IntsAt w' ai (rowI L k) → Calls Tryz.prog 108 #[.slice ai (rowI L k).length ci, .slice b t.length d] w' fun e w'' => e = .returned (.bool (ltL (rowI L k) t)) ∧ Ext w' w'') := fun w' k ai ci x hk i => l1Less_c ai b ci d (rowI L k) t w' i ((HT.out.ext x).1) (by have := hr k hk; omega) (by omega)
  have CS : Hid (∀ w' k ai ci, Ext w w' → k < L.length → IntsAt w' ai (rowI L k) → Calls Tryz.prog 160 #[.slice ai (rowI L k).length ci, .slice b t.length d] w' fun e w'' => e = .returned (.bool (decide (rowI L k = t))) ∧ Ext w' w'') := fun w' k ai ci x hk i => l1Same_c ai b ci d (rowI L k) t w' i ((HT.out.ext x).1) (by have := hr k hk; omega) (by omega)
  clear ho ht hr
  generalize hFQ : RetAdd w B (insL t L) = FQ at *
  clear hFQ
  obtain ⟨n, hn⟩ : ∃ n, n = L.length := ⟨_, rfl⟩
  have HN := Lib.hid hn
  rw [← hn] at hL hfit HO ⊢
  clear hn
  go_enter Tryz.func158, Tryz.ntmps158
  go_wp2
  go_loopw [5] (fun i wr => Hid (∃ k : Nat, k ≤ n ∧ i = .int .i64 k ∧ (∀ j, j < k → ltL (rowI L j) t = true) ∧ Ext w wr)) (fun i _ => n - (intOf i).toNat)
  case atStart => exact Lib.hid ⟨0, Nat.zero_le _, rfl, fun j hj => absurd hj (Nat.not_lt_zero _), by (repeat (first | exact Ext.refl _ | assumption | refine Ext.alloc ?_ _ | refine Ext.drewN ?_ _ | refine Ext.drew ?_))⟩
  case round =>
    obtain ⟨k, hk, rfl, hlt, hx⟩ := hrel.out
    have HLt := Lib.hid hlt
    have HX := Lib.hid hx
    clear hrel hlt hx
    by_cases hkn : k < n
    · have hki : (k : Int) < (n : Int) := by omega
      have hkl : k < L.length := by rw [← HN.out]; exact hkn
      obtain ⟨g, rfl, hBg, hg, -, hcells⟩ := HO.out.row (by omega)
      obtain ⟨ai, ci, d0, hci, hi⟩ := hcells k hkl
      have d1 := HX.out.cell' d0 hg
      have HI := Lib.hid hi.1
      have CL1 : Hid (∀ w', Ext w w' → Calls Tryz.prog 108 #[.slice ai (rowI L k).length ci, .slice b t.length d] w' fun e w'' => e = .returned (.bool (ltL (rowI L k) t)) ∧ Ext w' w'') := fun w' x => CL.out w' k ai ci x hkl (HI.out.ext x)
      have CS1 : Hid (∀ w', Ext w w' → Calls Tryz.prog 160 #[.slice ai (rowI L k).length ci, .slice b t.length d] w' fun e w'' => e = .returned (.bool (decide (rowI L k = t))) ∧ Ext w' w'') := fun w' x => CS.out w' k ai ci x hkl (HI.out.ext x)
      clear hcells d0 hi CL CS
      cases hc : ltL (rowI L k) t
      · rw [hc] at CL1
        by_cases he : rowI L k = t
        · have HR := Lib.hid (HThere.out k HLt.out hkl he)
          rw [decide_eq_true he] at CS1
          clear HThere HNew hc he HLt
          generalize (rowI L k).length = nr at *
          generalize t.length = nt at *
          go_wp2_with (first
            | (go_at_call 108; refine (CL1.out _ (HX.out.trans (by (repeat (first | exact Ext.refl _ | assumption | refine Ext.alloc ?_ _ | refine Ext.drewN ?_ _ | refine Ext.drew ?_))))).mono ?_; rintro e w1 ⟨rfl, x1⟩; have X1 := Lib.hid (HX.out.trans (Ext.trans (by (repeat (first | exact Ext.refl _ | assumption | refine Ext.alloc ?_ _ | refine Ext.drewN ?_ _ | refine Ext.drew ?_))) x1)); have d2 := Ext.cell' x1 d1 (by have := HX.out.size; omega); clear x1)
            | (go_at_call 160; refine (CS1.out _ (X1.out.trans (by (repeat (first | exact Ext.refl _ | assumption | refine Ext.alloc ?_ _ | refine Ext.drewN ?_ _ | refine Ext.drew ?_))))).mono ?_; rintro e w2 ⟨rfl, x2⟩; have X2 := Lib.hid (X1.out.trans (Ext.trans (by (repeat (first | exact Ext.refl _ | assumption | refine Ext.alloc ?_ _ | refine Ext.drewN ?_ _ | refine Ext.drew ?_))) x2)); clear x2))
          rw [HR.out]
          exact ⟨_, rfl, HO.out.ext (X2.out.trans (by (repeat (first | exact Ext.refl _ | assumption | refine Ext.alloc ?_ _ | refine Ext.drewN ?_ _ | refine Ext.drew ?_)))), X2.out.trans (by (repeat (first | exact Ext.refl _ | assumption | refine Ext.alloc ?_ _ | refine Ext.drewN ?_ _ | refine Ext.drew ?_)))⟩
        · have HR := Lib.hid (HNew.out k HLt.out (by omega) (fun _ => ⟨hc, he⟩))
          rw [decide_eq_false he] at CS1
          clear HThere HNew hc he HLt
          generalize (rowI L k).length = nr at *
          go_wp2_with (first
            | (go_at_call 108; refine (CL1.out _ (HX.out.trans (by (repeat (first | exact Ext.refl _ | assumption | refine Ext.alloc ?_ _ | refine Ext.drewN ?_ _ | refine Ext.drew ?_))))).mono ?_; rintro e w1 ⟨rfl, x1⟩; have X1 := Lib.hid (HX.out.trans (Ext.trans (by (repeat (first | exact Ext.refl _ | assumption | refine Ext.alloc ?_ _ | refine Ext.drewN ?_ _ | refine Ext.drew ?_))) x1)); have d2 := Ext.cell' x1 d1 (by have := HX.out.size; omega); clear x1)
            | (go_at_call 160; refine (CS1.out _ (X1.out.trans (by (repeat (first | exact Ext.refl _ | assumption | refine Ext.alloc ?_ _ | refine Ext.drewN ?_ _ | refine Ext.drew ?_))))).mono ?_; rintro e w2 ⟨rfl, x2⟩; have X2 := Lib.hid (X1.out.trans (Ext.trans (by (repeat (first | exact Ext.refl _ | assumption | refine Ext.alloc ?_ _ | refine Ext.drewN ?_ _ | refine Ext.drew ?_))) x2)); clear x2))
          have HK : Hid (L.take k ++ [t] ++ L.drop k = L.take k ++ [t] ++ L.drop k) := rfl
          have hki2 : (k : Int) ≤ (n : Int) := by omega
          have hkc : k ≤ c := by omega
          have hck : ¬ c = k := by omega
          obtain ⟨vs, us, s1, s2⟩ := HO.out.halves k
          have S1 := Lib.hid s1
          have S2 := Lib.hid s2
          clear s1 s2
          have T1 : Hid ((L.take k).length = k) := by unfold Hid; rw [List.length_take]; have := HN.out; omega
          have T2 : Hid ((L.drop k).length = n - k) := by unfold Hid; rw [List.length_drop]; have := HN.out; omega
          have hz2 := X2.out.size
          clear HK
          generalize L.take k = LT at *
          generalize L.drop k = LD at *
          generalize hlt1 : LT.length = lt at *
          have HLt1 := Lib.hid hlt1
          have hltk : lt = k := T1.out
          subst hltk
          clear hlt1
          go_wp2
          go_region_law
            ((first
              | (refine astep_append_ls rfl _ _ _ rfl w2.heap.size (ek 3) 23 neE Tryz.underlying24 infoInts (.slice (some ⟨_, 0, none⟩) 0 0) [] rfl (by first | exact OwnLs.empty _ _ _ | exact (OwnLs.empty _ _ _).ext (by (repeat (first | exact Ext.refl _ | assumption | refine Ext.alloc ?_ _ | refine Ext.drewN ?_ _ | refine Ext.drew ?_))) | exact ((OwnLs.empty' (w := w2.alloc (.cells #[.slice b t.length d] 23)) (by simp) _ _).ext (by (repeat (first | exact Ext.refl _ | assumption | refine Ext.alloc ?_ _ | refine Ext.drewN ?_ _ | refine Ext.drew ?_)))).mono (by simp)) _ _ _ vs LT rfl HLt1.out (S1.out.ext (X2.out.trans (by (repeat (first | exact Ext.refl _ | assumption | refine Ext.alloc ?_ _ | refine Ext.drewN ?_ _ | refine Ext.drew ?_))))) (by first | (simp; done) | (simp; omega) | omega) (by first | (simp; done) | (simp; omega) | omega) ?_
                 intro v7 w7 o7 g7
                 have X7 := Lib.hid (OwnLs.grown (w0 := w2) (by first | exact OwnLs.empty _ (ek 3) _ | exact (OwnLs.empty _ (ek 3) _).ext (by (repeat (first | exact Ext.refl _ | assumption | refine Ext.alloc ?_ _ | refine Ext.drewN ?_ _ | refine Ext.drew ?_))) | exact ((OwnLs.empty' (w := w2.alloc (.cells #[.slice b t.length d] 23)) (by simp) (ek 3) _).ext (by (repeat (first | exact Ext.refl _ | assumption | refine Ext.alloc ?_ _ | refine Ext.drewN ?_ _ | refine Ext.drew ?_)))).mono (by simp)) (by (repeat (first | exact Ext.refl _ | assumption | refine Ext.alloc ?_ _ | refine Ext.drewN ?_ _ | refine Ext.drew ?_))) g7)
                 have O7 := Lib.hid o7
                 have z7 := X7.out.size
                 obtain ⟨a7, c7, rfl⟩ := OwnLs.shape O7.out
                 clear o7)
              | (refine astep_append_ls rfl _ _ _ rfl w2.heap.size (ek 3) 23 neE Tryz.underlying24 infoInts _ ([] ++ LT) rfl (O7.out.ext (by (repeat (first | exact Ext.refl _ | assumption | refine Ext.alloc ?_ _ | refine Ext.drewN ?_ _ | refine Ext.drew ?_)))) _ _ _ [.slice b t.length d] [t] rfl rfl (SrcLs.one ((HT.out.ext X2.out).ext (X7.out.trans (by (repeat (first | exact Ext.refl _ | assumption | refine Ext.alloc ?_ _ | refine Ext.drewN ?_ _ | refine Ext.drew ?_))))) htd (by first | (simp [go_sem]; done) | exact g7.cell (by simp [go_sem]) (by simp [Value.ownBlock]))) (by have := HLt1.out; first | (simp; done) | (simp; omega) | omega) (by (try simp); omega) ?_
                 intro v8 w8 o8 g8
                 have X8 := Lib.hid (OwnLs.grown (w0 := w2) (O7.out.ext (by (repeat (first | exact Ext.refl _ | assumption | refine Ext.alloc ?_ _ | refine Ext.drewN ?_ _ | refine Ext.drew ?_)))) (X7.out.trans (by (repeat (first | exact Ext.refl _ | assumption | refine Ext.alloc ?_ _ | refine Ext.drewN ?_ _ | refine Ext.drew ?_)))) g8)
                 have O8 := Lib.hid o8
                 have z8 := X8.out.size
                 obtain ⟨a8, c8, rfl⟩ := OwnLs.shape O8.out
                 have e8 : ([] ++ LT ++ [t]).length = LT.length + 1 := by simp
                 rw [e8] at O8 ⊢
                 clear o8 g8)
              | (refine astep_append_ls rfl _ _ _ rfl w2.heap.size (ek 3) 23 neE Tryz.underlying24 infoInts _ ([] ++ LT ++ [t]) rfl (O8.out.ext (by (repeat (first | exact Ext.refl _ | assumption | refine Ext.alloc ?_ _ | refine Ext.drewN ?_ _ | refine Ext.drew ?_)))) _ _ _ us LD rfl T2.out (S2.out.ext (X2.out.trans (X8.out.trans (by (repeat (first | exact Ext.refl _ | assumption | refine Ext.alloc ?_ _ | refine Ext.drewN ?_ _ | refine Ext.drew ?_)))))) (by have := HLt1.out; first | (simp; done) | (simp; omega) | omega) (by (try simp); omega) ?_
                 intro v9 w9 o9 g9
                 have X9 := Lib.hid (OwnLs.grown (w0 := w2) (O8.out.ext (by (repeat (first | exact Ext.refl _ | assumption | refine Ext.alloc ?_ _ | refine Ext.drewN ?_ _ | refine Ext.drew ?_)))) (X8.out.trans (by (repeat (first | exact Ext.refl _ | assumption | refine Ext.alloc ?_ _ | refine Ext.drewN ?_ _ | refine Ext.drew ?_)))) g9)
                 have O9 := Lib.hid o9
                 clear o9 g9)
              | fail))
          all_goals
            go_wp2
            go_ret
            rw [HR.out]
            exact ⟨v9, rfl, by have h := (O9.out.mono (B' := B) (by have := X2.out.size; omega)); rw [List.nil_append] at h; exact h.ext (by (repeat (first | exact Ext.refl _ | assumption | refine Ext.alloc ?_ _ | refine Ext.drewN ?_ _ | refine Ext.drew ?_))), X2.out.trans (X9.out.trans (by (repeat (first | exact Ext.refl _ | assumption | refine Ext.alloc ?_ _ | refine Ext.drewN ?_ _ | refine Ext.drew ?_))))⟩
      · have HLt2 : Hid (∀ j, j < k + 1 → ltL (rowI L j) t = true) := fun j hj => by
          by_cases e : j = k
          · subst e; exact hc
          · exact HLt.out j (by omega)
        rw [hc] at CL1
        clear HThere HNew hc HLt CS1
        generalize (rowI L k).length = nr at *
        generalize t.length = nt at *
        go_wp2_with (go_at_call 108; refine (CL1.out _ (HX.out.trans (by (repeat (first | exact Ext.refl _ | assumption | refine Ext.alloc ?_ _ | refine Ext.drewN ?_ _ | refine Ext.drew ?_))))).mono ?_; rintro e w1 ⟨rfl, x1⟩; have X1 := Lib.hid (HX.out.trans (Ext.trans (by (repeat (first | exact Ext.refl _ | assumption | refine Ext.alloc ?_ _ | refine Ext.drewN ?_ _ | refine Ext.drew ?_))) x1)); have d2 := Ext.cell' x1 d1 (by have := HX.out.size; omega); clear x1)
        go_roundw
        case rel => exact Lib.hid ⟨k + 1, by omega, by go_num, HLt2.out, X1.out.trans (by (repeat (first | exact Ext.refl _ | assumption | refine Ext.alloc ?_ _ | refine Ext.drewN ?_ _ | refine Ext.drew ?_)))⟩
        case measure => simp [intOf]; omega
    · obtain rfl : k = n := by omega
      have HR := Lib.hid (HNew.out k HLt.out (by have := HN.out; omega) (fun h => absurd h (by have := HN.out; omega)))
      have T2 : Hid ((L.drop k).length = 0) := by unfold Hid; rw [List.length_drop]; have := HN.out; omega
      have S2 : Hid (∀ ax, SrcLs w (ek 3) ax [] (L.drop k)) := fun ax => by
        rw [List.eq_nil_of_length_eq_zero T2.out]
        exact ⟨RowsV.nil _ _, fun h => absurd h (by simp)⟩
      have T1 : Hid ((L.take k).length = k) := by unfold Hid; rw [List.length_take]; have := HN.out; omega
      have hz2 := HX.out.size
      clear HThere HNew CL CS HLt
      rcases HO.out.lies with ⟨rfl, rfl, rfl⟩ | ⟨g, rfl⟩
      · have S1 : Hid (SrcLs w (ek 3) none [] (L.take 0)) := ⟨RowsV.nil _ _, fun h => absurd h (by simp)⟩
        obtain ⟨vs, hvs⟩ : ∃ vs : List Value, vs = [] := ⟨_, rfl⟩
        rw [← hvs] at S1
        clear hvs
        generalize L.take 0 = LT at *
        generalize L.drop 0 = LD at *
        have HLt1 := T1
        go_wp2
        go_region_law
          ((first
            | (refine astep_append_ls rfl _ _ _ rfl wr.heap.size (ek 3) 23 neE Tryz.underlying24 infoInts (.slice (some ⟨_, 0, none⟩) 0 0) [] rfl (by first | exact OwnLs.empty _ _ _ | exact (OwnLs.empty _ _ _).ext (by (repeat (first | exact Ext.refl _ | assumption | refine Ext.alloc ?_ _ | refine Ext.drewN ?_ _ | refine Ext.drew ?_))) | exact ((OwnLs.empty' (w := wr.alloc (.cells #[.slice b t.length d] 23)) (by simp) _ _).ext (by (repeat (first | exact Ext.refl _ | assumption | refine Ext.alloc ?_ _ | refine Ext.drewN ?_ _ | refine Ext.drew ?_)))).mono (by simp)) _ _ _ vs LT rfl HLt1.out (S1.out.ext (HX.out.trans (by (repeat (first | exact Ext.refl _ | assumption | refine Ext.alloc ?_ _ | refine Ext.drewN ?_ _ | refine Ext.drew ?_))))) (by first | (simp; done) | (simp; omega) | omega) (by first | (simp; done) | (simp; omega) | omega) ?_
               intro v7 w7 o7 g7
               have X7 := Lib.hid (OwnLs.grown (w0 := wr) (by first | exact OwnLs.empty _ (ek 3) _ | exact (OwnLs.empty _ (ek 3) _).ext (by (repeat (first | exact Ext.refl _ | assumption | refine Ext.alloc ?_ _ | refine Ext.drewN ?_ _ | refine Ext.drew ?_))) | exact ((OwnLs.empty' (w := wr.alloc (.cells #[.slice b t.length d] 23)) (by simp) (ek 3) _).ext (by (repeat (first | exact Ext.refl _ | assumption | refine Ext.alloc ?_ _ | refine Ext.drewN ?_ _ | refine Ext.drew ?_)))).mono (by simp)) (by (repeat (first | exact Ext.refl _ | assumption | refine Ext.alloc ?_ _ | refine Ext.drewN ?_ _ | refine Ext.drew ?_))) g7)
               have O7 := Lib.hid o7
               have z7 := X7.out.size
               obtain ⟨a7, c7, rfl⟩ := OwnLs.shape O7.out
               clear o7)
            | (refine astep_append_ls rfl _ _ _ rfl wr.heap.size (ek 3) 23 neE Tryz.underlying24 infoInts _ ([] ++ LT) rfl (O7.out.ext (by (repeat (first | exact Ext.refl _ | assumption | refine Ext.alloc ?_ _ | refine Ext.drewN ?_ _ | refine Ext.drew ?_)))) _ _ _ [.slice b t.length d] [t] rfl rfl (SrcLs.one ((HT.out.ext HX.out).ext (X7.out.trans (by (repeat (first | exact Ext.refl _ | assumption | refine Ext.alloc ?_ _ | refine Ext.drewN ?_ _ | refine Ext.drew ?_))))) htd (by first | (simp [go_sem]; done) | exact g7.cell (by simp [go_sem]) (by simp [Value.ownBlock]))) (by have := HLt1.out; first | (simp; done) | (simp; omega) | omega) (by (try simp); omega) ?_
               intro v8 w8 o8 g8
               have X8 := Lib.hid (OwnLs.grown (w0 := wr) (O7.out.ext (by (repeat (first | exact Ext.refl _ | assumption | refine Ext.alloc ?_ _ | refine Ext.drewN ?_ _ | refine Ext.drew ?_)))) (X7.out.trans (by (repeat (first | exact Ext.refl _ | assumption | refine Ext.alloc ?_ _ | refine Ext.drewN ?_ _ | refine Ext.drew ?_)))) g8)
               have O8 := Lib.hid o8
               have z8 := X8.out.size
               obtain ⟨a8, c8, rfl⟩ := OwnLs.shape O8.out
               have e8 : ([] ++ LT ++ [t]).length = LT.length + 1 := by simp
               rw [e8] at O8 ⊢
               clear o8 g8)
            | (refine astep_append_ls rfl _ _ _ rfl wr.heap.size (ek 3) 23 neE Tryz.underlying24 infoInts _ ([] ++ LT ++ [t]) rfl (O8.out.ext (by (repeat (first | exact Ext.refl _ | assumption | refine Ext.alloc ?_ _ | refine Ext.drewN ?_ _ | refine Ext.drew ?_)))) _ _ _ [] LD rfl T2.out ((S2.out _).ext (HX.out.trans (X8.out.trans (by (repeat (first | exact Ext.refl _ | assumption | refine Ext.alloc ?_ _ | refine Ext.drewN ?_ _ | refine Ext.drew ?_)))))) (by have := HLt1.out; first | (simp; done) | (simp; omega) | omega) (by (try simp); omega) ?_
               intro v9 w9 o9 g9
               have X9 := Lib.hid (OwnLs.grown (w0 := wr) (O8.out.ext (by (repeat (first | exact Ext.refl _ | assumption | refine Ext.alloc ?_ _ | refine Ext.drewN ?_ _ | refine Ext.drew ?_)))) (X8.out.trans (by (repeat (first | exact Ext.refl _ | assumption | refine Ext.alloc ?_ _ | refine Ext.drewN ?_ _ | refine Ext.drew ?_)))) g9)
               have O9 := Lib.hid o9
               clear o9 g9)
            | fail))
        all_goals
          go_wp2
          go_ret
          rw [HR.out]
          exact ⟨v9, rfl, by have h := (O9.out.mono (B' := B) (by have := HX.out.size; omega)); rw [List.nil_append] at h; exact h.ext (by (repeat (first | exact Ext.refl _ | assumption | refine Ext.alloc ?_ _ | refine Ext.drewN ?_ _ | refine Ext.drew ?_))), HX.out.trans (X9.out.trans (by (repeat (first | exact Ext.refl _ | assumption | refine Ext.alloc ?_ _ | refine Ext.drewN ?_ _ | refine Ext.drew ?_))))⟩
      · have hkc : k ≤ c := hfit
        obtain ⟨vs, us, s1, -⟩ := HO.out.halves k
        have S1 := Lib.hid s1
        clear s1
        generalize L.take k = LT at *
        generalize L.drop k = LD at *
        generalize hlt1 : LT.length = lt at *
        have HLt1 := Lib.hid hlt1
        have hltk : lt = k := T1.out
        subst hltk
        clear hlt1
        by_cases hck : c = lt
        all_goals
          go_wp2
          go_region_law
            ((first
              | (refine astep_append_ls rfl _ _ _ rfl wr.heap.size (ek 3) 23 neE Tryz.underlying24 infoInts (.slice (some ⟨_, 0, none⟩) 0 0) [] rfl (by first | exact OwnLs.empty _ _ _ | exact (OwnLs.empty _ _ _).ext (by (repeat (first | exact Ext.refl _ | assumption | refine Ext.alloc ?_ _ | refine Ext.drewN ?_ _ | refine Ext.drew ?_))) | exact ((OwnLs.empty' (w := wr.alloc (.cells #[.slice b t.length d] 23)) (by simp) _ _).ext (by (repeat (first | exact Ext.refl _ | assumption | refine Ext.alloc ?_ _ | refine Ext.drewN ?_ _ | refine Ext.drew ?_)))).mono (by simp)) _ _ _ vs LT rfl HLt1.out (S1.out.ext (HX.out.trans (by (repeat (first | exact Ext.refl _ | assumption | refine Ext.alloc ?_ _ | refine Ext.drewN ?_ _ | refine Ext.drew ?_))))) (by first | (simp; done) | (simp; omega) | omega) (by first | (simp; done) | (simp; omega) | omega) ?_
                 intro v7 w7 o7 g7
                 have X7 := Lib.hid (OwnLs.grown (w0 := wr) (by first | exact OwnLs.empty _ (ek 3) _ | exact (OwnLs.empty _ (ek 3) _).ext (by (repeat (first | exact Ext.refl _ | assumption | refine Ext.alloc ?_ _ | refine Ext.drewN ?_ _ | refine Ext.drew ?_))) | exact ((OwnLs.empty' (w := wr.alloc (.cells #[.slice b t.length d] 23)) (by simp) (ek 3) _).ext (by (repeat (first | exact Ext.refl _ | assumption | refine Ext.alloc ?_ _ | refine Ext.drewN ?_ _ | refine Ext.drew ?_)))).mono (by simp)) (by (repeat (first | exact Ext.refl _ | assumption | refine Ext.alloc ?_ _ | refine Ext.drewN ?_ _ | refine Ext.drew ?_))) g7)
                 have O7 := Lib.hid o7
                 have z7 := X7.out.size
                 obtain ⟨a7, c7, rfl⟩ := OwnLs.shape O7.out
                 clear o7)
              | (refine astep_append_ls rfl _ _ _ rfl wr.heap.size (ek 3) 23 neE Tryz.underlying24 infoInts _ ([] ++ LT) rfl (O7.out.ext (by (repeat (first | exact Ext.refl _ | assumption | refine Ext.alloc ?_ _ | refine Ext.drewN ?_ _ | refine Ext.drew ?_)))) _ _ _ [.slice b t.length d] [t] rfl rfl (SrcLs.one ((HT.out.ext HX.out).ext (X7.out.trans (by (repeat (first | exact Ext.refl _ | assumption | refine Ext.alloc ?_ _ | refine Ext.drewN ?_ _ | refine Ext.drew ?_))))) htd (by first | (simp [go_sem]; done) | exact g7.cell (by simp [go_sem]) (by simp [Value.ownBlock]))) (by have := HLt1.out; first | (simp; done) | (simp; omega) | omega) (by (try simp); omega) ?_
                 intro v8 w8 o8 g8
                 have X8 := Lib.hid (OwnLs.grown (w0 := wr) (O7.out.ext (by (repeat (first | exact Ext.refl _ | assumption | refine Ext.alloc ?_ _ | refine Ext.drewN ?_ _ | refine Ext.drew ?_)))) (X7.out.trans (by (repeat (first | exact Ext.refl _ | assumption | refine Ext.alloc ?_ _ | refine Ext.drewN ?_ _ | refine Ext.drew ?_)))) g8)
                 have O8 := Lib.hid o8
                 have z8 := X8.out.size
                 obtain ⟨a8, c8, rfl⟩ := OwnLs.shape O8.out
                 have e8 : ([] ++ LT ++ [t]).length = LT.length + 1 := by simp
                 rw [e8] at O8 ⊢
                 clear o8 g8)
              | (refine astep_append_ls rfl _ _ _ rfl wr.heap.size (ek 3) 23 neE Tryz.underlying24 infoInts _ ([] ++ LT ++ [t]) rfl (O8.out.ext (by (repeat (first | exact Ext.refl _ | assumption | refine Ext.alloc ?_ _ | refine Ext.drewN ?_ _ | refine Ext.drew ?_)))) _ _ _ [] LD rfl T2.out ((S2.out _).ext (HX.out.trans (X8.out.trans (by (repeat (first | exact Ext.refl _ | assumption | refine Ext.alloc ?_ _ | refine Ext.drewN ?_ _ | refine Ext.drew ?_)))))) (by have := HLt1.out; first | (simp; done) | (simp; omega) | omega) (by (try simp); omega) ?_
                 intro v9 w9 o9 g9
                 have X9 := Lib.hid (OwnLs.grown (w0 := wr) (O8.out.ext (by (repeat (first | exact Ext.refl _ | assumption | refine Ext.alloc ?_ _ | refine Ext.drewN ?_ _ | refine Ext.drew ?_)))) (X8.out.trans (by (repeat (first | exact Ext.refl _ | assumption | refine Ext.alloc ?_ _ | refine Ext.drewN ?_ _ | refine Ext.drew ?_)))) g9)
                 have O9 := Lib.hid o9
                 clear o9 g9)
              | fail))
          all_goals
            go_wp2
            go_ret
            rw [HR.out]
            exact ⟨v9, rfl, by have h := (O9.out.mono (B' := B) (by have := HX.out.size; omega)); rw [List.nil_append] at h; exact h.ext (by (repeat (first | exact Ext.refl _ | assumption | refine Ext.alloc ?_ _ | refine Ext.drewN ?_ _ | refine Ext.drew ?_))), HX.out.trans (X9.out.trans (by (repeat (first | exact Ext.refl _ | assumption | refine Ext.alloc ?_ _ | refine Ext.drewN ?_ _ | refine Ext.drew ?_))))⟩
end Go.Proofs.YtlaamecfknkmlaaGreat
namespace Go.Kt
set_option linter.unusedVariables false
def addTo (L xs : List (List Int)) : Nat → List (List Int)
  | 0 => L
  | k + 1 => insL (rowI xs k) (addTo L xs k)
theorem mem_addTo (L xs : List (List Int)) (z : List Int) : ∀ k, k ≤ xs.length → (z ∈ addTo L xs k ↔ z ∈ L ∨ z ∈ xs.take k)
  | 0, _ => by simp [addTo]
  | k + 1, hk => by
    have e : rowI xs k = xs[k]'(by omega) := rowI_getElem _ _ (by omega)
    show z ∈ insL (rowI xs k) (addTo L xs k) ↔ _
    rw [mem_insL, mem_addTo L xs z k (by omega), List.take_add_one, List.getElem?_eq_getElem (by omega), List.mem_append, e]
    simp only [Option.toList, List.mem_singleton]
    constructor
    · rintro (h | h | h)
      · exact .inr (.inr h)
      · exact .inl h
      · exact .inr (.inl h)
    · rintro (h | h | h)
      · exact .inr (.inl h)
      · exact .inr (.inr h)
      · exact .inl h
theorem asc_addTo {L : List (List Int)} (h : Asc L) (xs : List (List Int)) : ∀ k, Asc (addTo L xs k)
  | 0 => h
  | k + 1 => asc_insL _ _ (asc_addTo h xs k)
theorem length_addTo (L xs : List (List Int)) : ∀ k, (addTo L xs k).length ≤ L.length + k
  | 0 => Nat.le_refl _
  | k + 1 => by
    have h1 := length_insL (rowI xs k) (addTo L xs k)
    have h2 := length_addTo L xs k
    show (insL _ _).length ≤ _
    omega
theorem addTo_ord {L : List (List Int)} (h : Asc L) (xs : List (List Int)) : addTo L xs xs.length = ordL (L ++ xs) :=
  ordL_unique (asc_addTo h xs _) fun x => by rw [mem_addTo L xs x _ (Nat.le_refl _), List.take_length, List.mem_append]
end Go.Kt
namespace Go.Proofs.YtlaamecfknkmlaaGreat
set_option linter.unusedVariables false
open Go.RowKit Go.Kt
set_option maxRecDepth 100000 in
set_option maxHeartbeats 1000000 in
theorem l4Ends_c : ∀ (t : Kt), t.Good → ∀ (b off cb : Nat) (w : World), IntsAt w (some ⟨b, off, none⟩) t.words → t.words.length ≤ cb → t.words.length ≤ 4096 →
      Calls Tryz.prog 119 #[.slice (some ⟨b, off, none⟩) t.words.length cb] w fun e w' => e = .returned (.int .i64 (t.ends : Nat)) ∧ Ext w w'
  | .leaf x, hg, b, off, cb, w, hl, hcb, h40 => by
    have hg : 0 ≤ x ∧ x ≤ 18 := hg
    obtain ⟨hc, zb⟩ := IntsAt.at_ (xs := []) (ys := []) hl
    simp only [Kt.words, List.length_nil, Nat.add_zero, List.length_cons, Nat.zero_add] at hc hcb ⊢
    clear hl h40
    by_cases h15 : x ≤ 15
    · have HF : Hid ((((Kt.leaf x).ends : Nat) : Int) = x) := by unfold Hid Kt.ends; rw [if_pos h15]; omega
      go_enter Tryz.func119, Tryz.ntmps119
      go_wp2
      go_ret
      exact ⟨by rw [HF.out]; rfl, by (repeat (first | exact Ext.refl _ | assumption | refine Ext.alloc ?_ _ | refine Ext.drewN ?_ _ | refine Ext.drew ?_))⟩
    · have HF : Hid ((((Kt.leaf x).ends : Nat) : Int) = 0) := by unfold Hid Kt.ends; rw [if_neg h15]; rfl
      have h18 := hg.2
      go_enter Tryz.func119, Tryz.ntmps119
      go_wp2
      go_ret
      exact ⟨by rw [HF.out]; rfl, by (repeat (first | exact Ext.refl _ | assumption | refine Ext.alloc ?_ _ | refine Ext.drewN ?_ _ | refine Ext.drew ?_))⟩
  | .star c, hg, b, off, cb, w, hl, hcb, h40 => by
    obtain ⟨hc, zb⟩ := IntsAt.at_ (xs := c.words) (ys := []) hl
    have hlen : (Kt.star c).words.length = c.words.length + 1 := by simp [Kt.words]
    rw [hlen] at hcb h40 ⊢
    have HF : Hid ((((Kt.star c).ends : Nat) : Int) = 15) := rfl
    generalize c.words.length = q at *
    clear hg hl hlen
    have hw1 : IntKind.i64.wrap ((q : Int) + 1 - 1) = (q : Int) := by rw [IntWalk.i64_in _ (by omega)]; omega
    have hqc : (q : Int) ≤ cb := by omega
    go_enter Tryz.func119, Tryz.ntmps119
    go_wp2
    go_ret
    exact ⟨by rw [HF.out]; rfl, by (repeat (first | exact Ext.refl _ | assumption | refine Ext.alloc ?_ _ | refine Ext.drewN ?_ _ | refine Ext.drew ?_))⟩
  | .two x c d, hg, b, off, cb, w, hl, hcb, h40 => by
    obtain ⟨hc, zb⟩ := IntsAt.at_ (xs := c.words ++ d.words) (ys := []) hl
    have hla := Lib.hid (IntsAt.left (xs := c.words) (IntsAt.left (xs := c.words ++ d.words) hl))
    have hlc := Lib.hid (IntsAt.right (xs := c.words) (IntsAt.left (xs := c.words ++ d.words) hl))
    have hlen : (Kt.two x c d).words.length = c.words.length + d.words.length + 1 := by simp [Kt.words]; omega
    have hH : Hid (∀ w', Ext w w' → Calls Tryz.prog 143 #[.slice (some ⟨b, off, none⟩) (c.words.length + d.words.length + 1) cb] w' fun e w'' => e = .returned (.tuple #[.slice (some ⟨b, off, none⟩) c.words.length cb, .slice (some ⟨b, off + c.words.length, none⟩) d.words.length (cb - c.words.length)]) ∧ w'' = w'.drew) := fun w' hx =>
      two_halves b off cb x c d hg.2.2 w' (hl.ext hx) hcb (by omega)
    rw [hlen] at hcb h40 ⊢
    rw [List.length_append] at hc
    obtain ⟨q, hq⟩ : ∃ q, q = c.words.length := ⟨_, rfl⟩
    obtain ⟨r, hr'⟩ : ∃ r, r = d.words.length := ⟨_, rfl⟩
    have ih : Hid (∀ w', Ext w w' → Calls Tryz.prog 119 #[.slice (some ⟨b, off, none⟩) q cb] w' fun e w'' => e = .returned (.int .i64 (c.ends : Nat)) ∧ Ext w' w'') := fun w' hx => by
      rw [hq]; exact l4Ends_c c hg.2.1 b off cb w' (hla.out.ext hx) (by omega) (by omega)
    have ih2 : Hid (∀ w', Ext w w' → Calls Tryz.prog 119 #[.slice (some ⟨b, off + q, none⟩) r (cb - q)] w' fun e w'' => e = .returned (.int .i64 (d.ends : Nat)) ∧ Ext w' w'') := fun w' hx => by
      rw [hq, hr']; exact l4Ends_c d hg.2.2 b (off + c.words.length) (cb - c.words.length) w' (hlc.out.ext hx) (by omega) (by omega)
    have HF : Hid ((((Kt.two 20 c d).ends : Nat) : Int) = (orN c.ends d.ends : Nat)) := rfl
    have HF2 : Hid ((((Kt.two 19 c d).ends : Nat) : Int) = (andN c.ends d.ends : Nat)) := rfl
    have hc16 := c.ends_lt
    have hd16 := d.ends_lt
    rw [← hq, ← hr'] at hc hcb h40 hH ⊢
    have hs := hg.1
    clear hg hl hla hlc hlen hq hr'
    generalize c.ends = ce at *
    generalize d.ends = de at *
    have hw1 : IntKind.i64.wrap ((q : Int) + (r : Int) + 1 - 1) = ((q + r : Nat) : Int) := by rw [IntWalk.i64_in _ (by omega)]; omega
    rcases hs with rfl | rfl
    · go_enter Tryz.func119, Tryz.ntmps119
      go_wp2_with fail
      refine (hH.out _ (by (repeat (first | exact Ext.refl _ | assumption | refine Ext.alloc ?_ _ | refine Ext.drewN ?_ _ | refine Ext.drew ?_)))).mono ?_
      rintro e w1 ⟨rfl, rfl⟩
      go_wp2_with fail
      refine (ih.out _ (by (repeat (first | exact Ext.refl _ | assumption | refine Ext.alloc ?_ _ | refine Ext.drewN ?_ _ | refine Ext.drew ?_)))).mono ?_
      rintro e w2 ⟨rfl, y2⟩
      have X2 := Lib.hid (Ext.trans (show Ext w _ by (repeat (first | exact Ext.refl _ | assumption | refine Ext.alloc ?_ _ | refine Ext.drewN ?_ _ | refine Ext.drew ?_))) y2)
      clear y2
      go_wp2_with fail
      refine (ih2.out _ (X2.out.trans (by (repeat (first | exact Ext.refl _ | assumption | refine Ext.alloc ?_ _ | refine Ext.drewN ?_ _ | refine Ext.drew ?_))))).mono ?_
      rintro e w3 ⟨rfl, y3⟩
      have X3 := Lib.hid (X2.out.trans (Ext.trans (by (repeat (first | exact Ext.refl _ | assumption | refine Ext.alloc ?_ _ | refine Ext.drewN ?_ _ | refine Ext.drew ?_))) y3))
      clear y3
      go_wp2_with (go_at_call 90; refine (l1Both_c _ _ _ (by omega) (by omega)).mono ?_; rintro e w4 ⟨rfl, rfl⟩)
      go_ret
      exact ⟨by rw [HF2.out]; rfl, X3.out.trans (by (repeat (first | exact Ext.refl _ | assumption | refine Ext.alloc ?_ _ | refine Ext.drewN ?_ _ | refine Ext.drew ?_)))⟩
    · go_enter Tryz.func119, Tryz.ntmps119
      go_wp2_with fail
      refine (hH.out _ (by (repeat (first | exact Ext.refl _ | assumption | refine Ext.alloc ?_ _ | refine Ext.drewN ?_ _ | refine Ext.drew ?_)))).mono ?_
      rintro e w1 ⟨rfl, rfl⟩
      go_wp2_with fail
      refine (ih.out _ (by (repeat (first | exact Ext.refl _ | assumption | refine Ext.alloc ?_ _ | refine Ext.drewN ?_ _ | refine Ext.drew ?_)))).mono ?_
      rintro e w2 ⟨rfl, y2⟩
      have X2 := Lib.hid (Ext.trans (show Ext w _ by (repeat (first | exact Ext.refl _ | assumption | refine Ext.alloc ?_ _ | refine Ext.drewN ?_ _ | refine Ext.drew ?_))) y2)
      clear y2
      go_wp2_with fail
      refine (ih2.out _ (X2.out.trans (by (repeat (first | exact Ext.refl _ | assumption | refine Ext.alloc ?_ _ | refine Ext.drewN ?_ _ | refine Ext.drew ?_))))).mono ?_
      rintro e w3 ⟨rfl, y3⟩
      have X3 := Lib.hid (X2.out.trans (Ext.trans (by (repeat (first | exact Ext.refl _ | assumption | refine Ext.alloc ?_ _ | refine Ext.drewN ?_ _ | refine Ext.drew ?_))) y3))
      clear y3
      go_wp2_with (go_at_call 122; refine (l1Either_c _ _ _ (by omega) (by omega)).mono ?_; rintro e w4 ⟨rfl, rfl⟩)
      go_ret
      exact ⟨by rw [HF.out]; rfl, X3.out.trans (by (repeat (first | exact Ext.refl _ | assumption | refine Ext.alloc ?_ _ | refine Ext.drewN ?_ _ | refine Ext.drew ?_)))⟩
end Go.Proofs.YtlaamecfknkmlaaGreat
namespace Go.Proofs.YtlaamecfknkmlaaGreat
set_option linter.unusedVariables false
open Go.RowKit Go.Kt
theorem lit1E {w' : World} {b : Nat} (hb : w'.heap.size = b) (x : Int) : IntsE (w'.alloc (.cells #[.int .i64 x] 3)) (ek 3) (some ⟨b, 0, none⟩) [x] := by
  subst hb
  exact (OwnI.lit1 w' w'.heap.size 3 x (Nat.le_refl _)).intsE
theorem add_step {L0 xs : List (List Int)} (h0 : ∀ x, x ∈ L0 → x.length ≤ 10000) (h1 : ∀ x, x ∈ xs → x.length ≤ 10000) (hl0 : L0.length ≤ 10000) (hlx : xs.length ≤ 10000) (B : Nat) (a b : Option Addr) (c d k : Nat) (w : World) (hk : k < xs.length) (ho : OwnLs w B (ek 3) 23 (.slice a (addTo L0 xs k).length c) (addTo L0 xs k)) (ht : IntsE w (ek 3) b (rowI xs k)) (htd : (rowI xs k).length ≤ d) (hB : B ≤ w.heap.size) :
    Calls Tryz.prog 158 #[.slice a (addTo L0 xs k).length c, .slice b (rowI xs k).length d] w (RetAdd w B (addTo L0 xs (k + 1))) := by
  have hl := length_addTo L0 xs k
  have hx := h1 _ (rowI_mem2 hk)
  refine l3Add_c B a b c d _ _ w ho ht htd (by omega) (fun i hi => ?_) (by omega) hB
  have hm := rowI_mem2 hi
  rcases (mem_addTo L0 xs _ k (by omega)).1 hm with h | h
  · have := h0 _ h; omega
  · have := h1 _ (List.mem_of_mem_take h); omega
theorem rowI_map {L : List (List Int)} {f : List Int → List Int} {k : Nat} (h : k < L.length) : rowI (L.map f) k = f (rowI L k) := by
  rw [rowI_getElem _ _ (by simpa using h), rowI_getElem _ _ h, List.getElem_map]
end Go.Proofs.YtlaamecfknkmlaaGreat
