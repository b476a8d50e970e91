/- Merged texts: contracts and plain lemmas (U). -/
import Derived.Test.YtlaamecfknkmlaaDoorMh7
import Derived.Test.YtlaamecfknkmlaaDoorMh6
/- Contracts: the laws' own helpers over sets; and the plain laws of rows as the walks want them. -/
namespace Go.Proofs.YtlaamecfknkmlaaDoor
set_option linter.unusedVariables false
open Go.RowKit Go.Kt

theorem alive_c (w : World) : Calls Tryd.prog 8 #[] w fun e w' => e = .returned (.bool true) ∧ w = w' := by
  have h1 : notF 0 = 15 := by decide
  have h2 : notF 15 = 0 := by decide
  go_enter Tryd.func8, Tryd.ntmps8
  go_wp2_with fail
  refine (iTestNot_c 0 _).mono ?_
  rw [h1]
  rintro e w1 ⟨rfl, rfl⟩
  go_wp2_with fail
  refine (iTestNot_c 15 _).mono ?_
  rw [h2]
  rintro e w1 ⟨rfl, rfl⟩
  go_wp2
  go_ret
  exact ⟨rfl, rfl⟩
/-! plain laws of rows -/
theorem rvB_rel {s : Nat} {l : List Int} (h1 : 1 ≤ s) (h5 : s ≤ 5) (h : Rel s l) : rvB s l = true := by
  simp only [rvB, decide_eq_true_eq, Int.toNat_natCast]
  refine ⟨by omega, by omega, by rw [h.len], fun x hx => ?_⟩
  obtain ⟨i, hi, rfl⟩ := List.getElem_of_mem hx
  have h0 := (h.sets i hi).1
  have h2 := h.lt' i hi
  unfold natAt at h2
  rw [nth_getElem l i hi] at h0 h2
  refine ⟨h0, ?_⟩
  have : (l[i].toNat : Int) < ((2 ^ s : Nat) : Int) := by exact_mod_cast h2
  rw [Int.toNat_of_nonneg h0] at this
  simpa using this
theorem rel_rvB {s : Nat} {l : List Int} (h : rvB s l = true) : 1 ≤ s ∧ s ≤ 5 ∧ Rel s l := by
  obtain ⟨hs, hlt, h1, h5⟩ := rvB_sets h
  have hl := rvB_len h
  have hls : l.length = s := by omega
  exact ⟨by omega, by omega, hls, by omega, hs, fun i hi => by have := hlt i (by omega); simpa using this⟩
theorem backF_laws {s : Nat} {a : List Int} (h : rvB s a = true) : rvB s (backF s a) = true ∧ backF s (backF s a) = a ∧ 1 ≤ (backF s a).length := by
  obtain ⟨h1, h5, hr⟩ := rel_rvB h
  have e : backF s a = backTo a a.length := by simp [backF, h]
  have h2 := rvB_rel h1 h5 hr.backTo
  rw [e]
  refine ⟨h2, ?_, by rw [hr.backTo.len]; exact h1⟩
  simp only [backF, h2, if_true]
  exact back_back hr
theorem plusF_laws {s : Nat} {a b : List Int} (h : rvB s a = true) (k : rvB s b = true) :
    rvB s (plusF s a b) = true ∧ plusF s b a = plusF s a b ∧ 1 ≤ (plusF s a b).length ∧ (plusF s a b).length = a.length ∧ (plusF s a b).length = b.length ∧
      (∀ i, i < a.length → Sub (natAt a i) (natAt (plusF s a b) i)) ∧ (∀ i, i < b.length → Sub (natAt b i) (natAt (plusF s a b) i)) := by
  obtain ⟨h1, h5, ha⟩ := rel_rvB h
  obtain ⟨-, -, hb⟩ := rel_rvB k
  have e : plusF s a b = plusTo a b a.length := by simp [plusF, h, k]
  have e2 : plusF s b a = plusTo b a b.length := by simp [plusF, h, k]
  have hp := ha.plusTo hb
  rw [e, e2]
  refine ⟨rvB_rel h1 h5 hp, plus_comm' ha hb, by rw [hp.len]; exact h1, by rw [hp.len, ha.len], by rw [hp.len, hb.len], fun i hi => ?_, fun i hi => ?_⟩
  · rw [natAt_plus a b _ i hi]
    intro t ht
    rw [testBit_orN, ht]; rfl
  · rw [natAt_plus a b _ i (by rw [ha.len, ← hb.len]; exact hi)]
    intro t ht
    rw [testBit_orN, ht, Bool.or_true]
theorem plusF_bad {s : Nat} {a b : List Int} (h : (rvB s a && rvB s b) = false) : plusF s a b = [] := by simp [plusF, h]
theorem thenF_bad {s : Nat} {a b : List Int} (h : (rvB s a && rvB s b) = false) : thenF s a b = [] := by simp [thenF, h]
theorem thenF_rv {s : Nat} {a b : List Int} (h : rvB s a = true) (k : rvB s b = true) : rvB s (thenF s a b) = true := by
  obtain ⟨h1, h5, ha⟩ := rel_rvB h
  obtain ⟨-, -, hb⟩ := rel_rvB k
  have e : thenF s a b = thenTo a b a.length := by simp [thenF, h, k]
  rw [e]
  exact rvB_rel h1 h5 (ha.thenTo hb)
theorem thenF_val {s : Nat} {a b : List Int} (h : rvB s a = true) (k : rvB s b = true) : thenF s a b = thenTo a b a.length := by unfold thenF; rw [h, k]; rfl
theorem backF_val {s : Nat} {a : List Int} (h : rvB s a = true) : backF s a = backTo a a.length := by unfold backF; rw [h]; rfl
theorem thenF_assoc {s : Nat} {a b c : List Int} (h : rvB s a = true) (k : rvB s b = true) (l : rvB s c = true) : thenF s (thenF s a b) c = thenF s a (thenF s b c) := by
  have h1 := thenF_rv h k
  have h2 := thenF_rv k l
  have e1 : thenF s a b = thenTo a b a.length := by simp [thenF, h, k]
  have e2 : thenF s b c = thenTo b c b.length := by simp [thenF, k, l]
  have e3 := thenF_val h1 l
  have e4 := thenF_val h h2
  rw [e3, e4, e1, e2]
  exact then_assoc (rel_rvB h).2.2 (rel_rvB k).2.2 (rel_rvB l).2.2
theorem thenF_back {s : Nat} {a b : List Int} (h : rvB s a = true) (k : rvB s b = true) : backF s (thenF s a b) = thenF s (backF s b) (backF s a) := by
  have h1 := thenF_rv h k
  have h2 := (backF_laws h).1
  have h3 := (backF_laws k).1
  have e1 : thenF s a b = thenTo a b a.length := by simp [thenF, h, k]
  have e2 := backF_val h1
  have e3 := thenF_val h3 h2
  have e4 : backF s a = backTo a a.length := by simp [backF, h]
  have e5 : backF s b = backTo b b.length := by simp [backF, k]
  rw [e2, e3, e1, e4, e5]
  exact back_then (rel_rvB h).2.2 (rel_rvB k).2.2
theorem starF_laws {s : Nat} {a : List Int} (h : rvB s a = true) :
    rvB s (starF s a) = true ∧ thenF s (starF s a) (starF s a) = starF s a ∧ starF s (starF s a) = starF s a ∧ 1 ≤ (starF s a).length ∧ (starF s a).length = a.length ∧
      (∀ i, i < a.length → Sub (natAt a i) (natAt (starF s a) i)) ∧ ∀ i, i < (starF s a).length → (natAt (starF s a) i).testBit i = true := by
  obtain ⟨h1, h5, ha⟩ := rel_rvB h
  have e : starF s a = starTo a a.length := by simp [starF, h]
  have hs := rvB_rel h1 h5 ha.starTo
  rw [e]
  refine ⟨hs, ?_, ?_, by rw [ha.starTo.len]; exact h1, by rw [ha.starTo.len, ha.len], fun i hi => star_above ha h5 i (by rw [← ha.len]; exact hi), fun i hi => star_self ha i (by rw [ha.starTo.len] at hi; exact hi)⟩
  · simp only [thenF, hs, Bool.and_self, if_true]
    exact star_then ha h5
  · simp only [starF, hs, if_true]
    exact star_star ha h5
theorem rvB_zeros {s : Nat} {l : List Int} (h : rvB s l = true) : rvB s (List.replicate l.length 0) = true := by
  obtain ⟨h1, h5, hr⟩ := rel_rvB h
  simp only [rvB, decide_eq_true_eq, Int.toNat_natCast, List.length_replicate]
  refine ⟨by omega, by omega, by rw [hr.len], fun x hx => ?_⟩
  rw [List.eq_of_mem_replicate hx]
  have := pow_pos' s
  exact ⟨by omega, by omega⟩
theorem rvB_more {s : Nat} {l : List Int} (x : Int) (h : rvB s l = true) : rvB s (l ++ [x]) = false := by
  obtain ⟨h1, h5, hr⟩ := rel_rvB h
  have := hr.len
  simp [rvB]
  omega
end Go.Proofs.YtlaamecfknkmlaaDoor
