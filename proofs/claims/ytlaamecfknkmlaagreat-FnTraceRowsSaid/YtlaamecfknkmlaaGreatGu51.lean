/- Merged texts: contracts and plain lemmas (Yn). -/
import Derived.Test.YtlaamecfknkmlaaGreatGu50
import Derived.Test.YtlaamecfknkmlaaGreatGu36
import Derived.Test.YtlaamecfknkmlaaGreatGu48
/- Plain law: a trace of an expression leads nowhere where the expression does not. -/
namespace Go.Proofs.YtlaamecfknkmlaaGreat
set_option linter.unusedVariables false
open Go.RowKit Go.Kt

theorem pow2_bit {a b : Nat} (h : (pow2 a).testBit b = true) : a = b := by
  unfold pow2 at h
  rw [Nat.testBit_two_pow] at h
  exact of_decide_eq_true h
theorem trace_walk {p q : Int} {st : Nat} {ll : List (List Int)} {tr : List Int} {t : Kt} (hst : st ≤ 5) (hll : ∀ i, i < 3 → Rel st (rowI ll i)) (hv : tvB tr = true) (hg : t.Good) :
    ∀ k, 2 * k < tr.length → ∀ i j, i < st → By (trRows p q st ll tr k) i j → j < st ∧ atomI p q j = (nth tr (2 * k)).toNat ∧ ∀ r : Kt, r.Good → r.words ∈ setL t.words tr k → ∀ u, r.Leads p q st ll j u → t.Leads p q st ll i u
  | 0, hk, i, j, hi, hb => by
    obtain ⟨rfl, h⟩ := (by_test p q _ st hi j).1 hb
    refine ⟨hi, (pow2_bit h).symm, fun r hr hm u hu => ?_⟩
    simp [setL] at hm
    rw [← Kt.words_inj hr hg hm]; exact hu
  | k + 1, hk, i, j, hi, hb => by
    have hR := trRows_rel (p := p) (q := q) (by omega) hll hv k (by omega)
    have hodd := tvB_tok hv (show 2 * k + 1 < tr.length by omega)
    rw [tokB_odd (by omega)] at hodd
    simp only [inR, decide_eq_true_eq] at hodd
    obtain ⟨x, hx⟩ : ∃ x : Nat, nth tr (2 * k + 1) = 16 + (x : Int) := ⟨(nth tr (2 * k + 1) - 16).toNat, by omega⟩
    have hx3 : x < 3 := by omega
    have hrow := hll x hx3
    unfold trRows at hb
    rw [show (nth tr (2 * k + 1)).toNat - 16 = x by omega] at hb
    obtain ⟨m, h1, h2⟩ := (by_then (hR.thenTo hrow) (Rel.test p q (by omega)) hi j).1 hb
    obtain ⟨n, h3, h4⟩ := (by_then hR hrow hi m).1 h1
    obtain ⟨hn, ha, ih⟩ := trace_walk hst hll hv hg k (by omega) i n hi h3
    have hm := by_lt hrow hn h4
    obtain ⟨rfl, h5⟩ := (by_test p q _ st hm j).1 h2
    refine ⟨hm, (pow2_bit h5).symm, fun r hr hmem u hu => ?_⟩
    unfold setL at hmem
    rw [mem_ordL, List.mem_flatMap] at hmem
    obtain ⟨p', hp', hmem⟩ := hmem
    obtain ⟨s, hs, rfl, -⟩ := left_set hg hv k (by omega) p' hp'
    rw [treeW_words hs, mem_partsL] at hmem
    obtain ⟨r', hr', he⟩ := hmem
    have hr'g : r'.Good := pd_good s hs r' (part_pd _ _ (by omega) s r' hr')
    obtain rfl := Kt.words_inj hr'g hr he
    rw [← ha, hx] at hr'
    exact ih s hs hp' u (part_sound hn h4 s hs r' hr' u hu)
theorem trace_under {st p q : Int} {ll : List (List Int)} {e tr : List Int} (hm : mvB st p q ll = true) (h : tbB e tr = true) : ∀ i, i < st.toNat → Sub (natAt (traceF st p q ll tr) i) (natAt (rowsF st p q ll e) i) := by
  intro i hi j hb
  unfold tbB at h
  rw [Bool.and_eq_true, Bool.and_eq_true, List.any_eq_true] at h
  obtain ⟨hk, hv, x, hx, he⟩ := h
  obtain ⟨t, hg, rfl⟩ := kvB_tree hk
  obtain ⟨sn, P, Q, rfl, rfl, rfl, b1, b2, b3, b4, b5, b6, b7, b8⟩ := mvB_bounds hm
  have hl := tvB_len hv
  rw [Int.toNat_natCast] at hi
  have hll : ∀ i, i < 3 → Rel sn (rowI ll i) := fun i hi => rvB_relK (b8 i hi)
  unfold traceF at hb
  rw [hm, hv] at hb
  have hb' : By (trRows P Q sn ll tr (tr.length / 2)) i j := hb
  obtain ⟨hj, ha, hw⟩ := trace_walk b2 hll hv hg _ (by omega) i j hi hb'
  obtain ⟨r, hr, rfl, -⟩ := left_set hg hv _ (by omega) x hx
  rw [treeW_words hr, show tr.length - 1 = 2 * (tr.length / 2) by omega, ← ha] at he
  have hL := hw r hr hx j (ends_sound r hr j he)
  have hR := (leads_iff P Q sn ll b2 hll t hg i hi j).2 hL
  unfold rowsF
  rw [hm, hk]
  simp only [Bool.and_true, if_true]
  rw [treeOf_words hg]
  exact hR
end Go.Proofs.YtlaamecfknkmlaaGreat
