/- Merged texts: contracts and plain lemmas (Wz). -/
import Derived.Test.YtlaamecfknkmlaaGreatGs2
import Derived.Test.YtlaamecfknkmlaaGreatGs11
namespace Go.Kt
set_option linter.unusedVariables false
open Go.Proofs.YtlaamecfknkmlaaGreat
/-- A place is bad: it may end where the test does not hold, or a bad one is behind it. -/
def BadAt (E : List Int) (N : List (List Int)) (T : Nat) (S : List (Nat × Nat)) (s a : Nat) : Prop :=
  ((natAt E s).testBit a = true ∧ T.testBit a = false) ∨ ∃ k, k < 3 ∧ ∃ p, p ∈ S ∧ (natAt (rowI N s) (3 * a + k)).testBit p.1 = true
def ClosedB (E : List Int) (N : List (List Int)) (T : Nat) (S : List (Nat × Nat)) : Prop := ∀ s a, s < E.length → a < 4 → (s, a) ∉ S → ¬ BadAt E N T S s a
theorem weak_sound {t : Kt} (hg : t.Good) (h : auB t.words = true) {T : Nat} {S : List (Nat × Nat)} (hc : ClosedB (auE t.words) (auN t.words) T S) {p q : Int} {ll : List (List Int)} {u : Nat} : ∀ (n X i : Nat), (∀ s, s < (auE t.words).length → X.testBit s = true → (s, atomI p q i) ∉ S) → RunS p q ll t.words n X i u → T.testBit (atomI p q u) = true
  | 0, X, i, hX, hr => by
    obtain ⟨rfl, hb⟩ := (runS_zero h X i u).1 hr
    rw [testBit_img] at hb
    obtain ⟨s, h1, h2, h3⟩ := hb
    cases hT : T.testBit (atomI p q i)
    · exact absurd (.inl ⟨h3, hT⟩) (hc s _ h1 (by have := atomI_le p q i; omega) (hX s h1 h2))
    · rfl
  | n + 1, X, i, hX, hr => by
    obtain ⟨k, j, hk, hb, hr2⟩ := (runS_succ hg h n X i u).1 hr
    refine weak_sound hg h hc n _ j (fun s hs hbit hin => ?_) hr2
    obtain ⟨s0, k1, k2, k3⟩ := (testBit_stp (auto_of _) X _ s).1 hbit
    exact hc s0 _ k1 (by have := atomI_le p q i; omega) (hX s0 k1 k2) (.inr ⟨k, hk, _, hin, k3⟩)
theorem triple_led {t : Kt} (hg : t.Good) (h : auB t.words = true) {B T : Nat} {S : List (Nat × Nat)} (hc : ClosedB (auE t.words) (auN t.words) T S) (hB : ∀ a, a < 4 → B.testBit a = true → (0, a) ∉ S) {p q : Int} {st : Nat} (hst : st ≤ 5) {ll : List (List Int)} (hll : ∀ k, k < 3 → Rel st (rowI ll k)) :
    Sub (img (t.rows p q st ll) (tsTo p q B st)) (tsTo p q T st) := by
  intro u hu
  have hrel := Kt.rows_rel p q st ll (by omega) hll t hg
  obtain ⟨i, h1, h2, h3⟩ := (testBit_img _ _ _).1 hu
  rw [hrel.len] at h1
  obtain ⟨-, h2'⟩ := (testBit_tsTo p q B i st).1 h2
  have hu' : u < st := by_lt hrel h1 h3
  obtain ⟨n, hn⟩ := (leads_iff_run hll hg h1).1 ((leads_iff p q st ll hst hll t hg i h1 u).1 h3)
  refine (testBit_tsTo p q T u st).2 ⟨hu', ?_⟩
  refine weak_sound hg h hc n 1 i (fun s hs hb => ?_) ((runS_one hg n i u).2 hn)
  have hb' : (pow2 0).testBit s = true := hb
  rw [testBit_pow2, decide_eq_true_eq] at hb'
  subst hb'
  exact hB _ (by have := atomI_le p q i; omega) h2'
/-- What TripleOk tells. -/
def Triple (e : List Int) (b t : Int) : Prop := ∃ (B T : Nat), b = B ∧ t = T ∧ B < 16 ∧ T < 16 ∧ auB e = true ∧ ∃ S, ClosedB (auE e) (auN e) T S ∧ ∀ a, a < 4 → B.testBit a = true → (0, a) ∉ S
theorem Triple.led {e : List Int} {b t : Int} (h : Triple e b t) : ∃ (B T : Nat), b = B ∧ t = T ∧ B < 16 ∧ T < 16 ∧ kvB e = true ∧ ∀ (p q : Int) (st : Nat) (ll : List (List Int)), st ≤ 5 → (∀ k, k < 3 → Rel st (rowI ll k)) → andN (img ((treeOf e).rows p q st ll) (tsTo p q B st)) (tsTo p q T st) = img ((treeOf e).rows p q st ll) (tsTo p q B st) := by
  obtain ⟨B, T, rfl, rfl, hB, hT, ha, S, hc, hS⟩ := h
  refine ⟨B, T, rfl, rfl, hB, hT, (auB_kv ha).1, fun p q st ll hst hll => ?_⟩
  obtain ⟨hg, hw⟩ := treeOf_valid (auB_kv ha).1
  have hw2 : (treeOf e).words = e := by first | exact hw | exact hw.symm | exact hw.1
  exact andN_of_sub (triple_led hg (by rw [hw2]; exact ha) (by rw [hw2]; exact hc) hS hst hll)
theorem strong_weak (p q : Int) (st : Nat) (ll : List (List Int)) (hst : st ≤ 5) (hll : ∀ i, i < 3 → Rel st (rowI ll i)) {t : Kt} (hg : t.Good) {X O : Nat} (hX : X < 2 ^ st) (hO : O < 2 ^ st) :
    decide (andN (img (t.rows p q st ll) X) O = img (t.rows p q st ll) X) = decide (andN X (t.weak p q st ll O) = X) := by
  have hrel := Kt.rows_rel p q st ll (by omega) hll t hg
  rw [decide_eq_decide]
  constructor
  · intro h
    refine andN_of_sub fun k hk => ?_
    have hk' : k < st := testBit_lt hX hk
    exact (weak_bits p q st ll hst hll t hg O hO k hk').2 (img_sub.1 (sub_of_andN h) k (by rw [hrel.len]; exact hk') hk)
  · intro h
    refine andN_of_sub (img_sub.2 fun i hi hb => ?_)
    rw [hrel.len] at hi
    exact (weak_bits p q st ll hst hll t hg O hO i hi).1 (sub_of_andN h i hb)
def Places (n : Nat) (S : List (Nat × Nat)) : Prop := ∀ p, p ∈ S → p.1 < n ∧ p.2 < 4
theorem places_len {n : Nat} {S : List (Nat × Nat)} (hn : S.Nodup) (h : Places n S) : S.length ≤ n * 4 := by
  have h1 : (S.map rowP).Nodup := nodup_map (fun _ _ => rowP_inj) hn
  have h2 := nodup_len (L := (List.range n).flatMap fun a => (List.range 4).map fun b => rowP (a, b)) h1 fun x hx => by
    obtain ⟨p, hp, rfl⟩ := List.mem_map.1 hx
    have := h p hp
    rw [List.mem_flatMap]
    exact ⟨p.1, List.mem_range.2 this.1, List.mem_map.2 ⟨p.2, List.mem_range.2 this.2, rfl⟩⟩
  rw [length_flat, List.length_map] at h2
  exact h2
/-- The places ahead of (k, m) are bad or have no reason to be. -/
def Done (E : List Int) (N : List (List Int)) (T : Nat) (S : List (Nat × Nat)) (k m : Nat) : Prop := ∀ s a, a < 4 → (s < k ∨ (s = k ∧ a < m)) → (s, a) ∉ S → ¬ BadAt E N T S s a
theorem Done.zero {E : List Int} {N : List (List Int)} {T : Nat} {S : List (Nat × Nat)} : Done E N T S 0 0 := fun s a _ h => by omega
theorem Done.next {E : List Int} {N : List (List Int)} {T : Nat} {S : List (Nat × Nat)} {k m : Nat} (h : Done E N T S k m) (hm : (k, m) ∉ S → ¬ BadAt E N T S k m) : Done E N T S k (m + 1) := fun s a ha hs hn => by
  by_cases e : s = k ∧ a = m
  · obtain ⟨rfl, rfl⟩ := e; exact hm hn
  · exact h s a ha (by omega) hn
theorem Done.row {E : List Int} {N : List (List Int)} {T : Nat} {S : List (Nat × Nat)} {k : Nat} (h : Done E N T S k 4) : Done E N T S (k + 1) 0 := fun s a ha hs hn => h s a ha (by omega) hn
theorem Done.closed {E : List Int} {N : List (List Int)} {T : Nat} {S : List (Nat × Nat)} {n : Nat} (h : Done E N T S n 0) (hn : E.length = n) : ClosedB E N T S := fun s a hs ha hin => h s a ha (by omega) hin
/-- What has been seen of a place: no reason to be bad, among the first j actions. -/
def Fine (E : List Int) (N : List (List Int)) (T : Nat) (S : List (Nat × Nat)) (k m j : Nat) : Prop := ¬ ((natAt E k).testBit m = true ∧ T.testBit m = false) ∧ ∀ i, i < j → ∀ p, p ∈ S → (natAt (rowI N k) (3 * m + i)).testBit p.1 = false
theorem Fine.step {E : List Int} {N : List (List Int)} {T : Nat} {S : List (Nat × Nat)} {k m j : Nat} (h : Fine E N T S k m j) (hj : ∀ p, p ∈ S → (natAt (rowI N k) (3 * m + j)).testBit p.1 = false) : Fine E N T S k m (j + 1) :=
  ⟨h.1, fun i hi p hp => by
    by_cases e : i = j
    · subst e; exact hj p hp
    · exact h.2 i (by omega) p hp⟩
theorem Fine.good {E : List Int} {N : List (List Int)} {T : Nat} {S : List (Nat × Nat)} {k m : Nat} (h : Fine E N T S k m 3) : ¬ BadAt E N T S k m := by
  rintro (h1 | ⟨i, hi, p, hp, hb⟩)
  · exact h.1 h1
  · rw [h.2 i hi p hp] at hb; cases hb
/-- The test that is left: where a start is not bad. -/
def outW (S : List (Nat × Nat)) (k : Nat) : Nat := sumN (fun a => decide ((0, a) ∉ S)) k
theorem outW_bit (S : List (Nat × Nat)) (a k : Nat) : (outW S k).testBit a = true ↔ a < k ∧ (0, a) ∉ S := by
  unfold outW; rw [testBit_sumN, decide_eq_true_eq]
theorem outW_lt (S : List (Nat × Nat)) : outW S 4 < 16 := sumN_lt _ 4
theorem outW_in {S : List (Nat × Nat)} {k : Nat} (h : (0, k) ∈ S) : outW S (k + 1) = outW S k := by
  unfold outW; rw [sumN_succ, if_neg (by simpa using h)]; rfl
theorem outW_out {S : List (Nat × Nat)} {k : Nat} (h : (0, k) ∉ S) : orN (outW S k) (pow2 k) = outW S (k + 1) := by
  unfold outW; exact sumN_or _ k (by simpa using h)
end Go.Kt
