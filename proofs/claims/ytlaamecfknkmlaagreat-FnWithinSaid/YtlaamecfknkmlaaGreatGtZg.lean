/- Merged texts: contracts and plain lemmas (Zg). -/
import Derived.Test.YtlaamecfknkmlaaGreatGt2
import Derived.Test.YtlaamecfknkmlaaGreatGt1
namespace Go.Kt
set_option linter.unusedVariables false

def chP (tr : List Int) (b n : Nat) : Int := ((sumN (fun k => (nth tr (2 * k)).toNat.testBit b) (n + 1) : Nat) : Int)
def chR (tr : List Int) (n k : Nat) : List Int := (List.range (n + 1)).map fun i => if i < n ∧ nth tr (2 * i + 1) = 16 + (k : Int) then ((pow2 (i + 1) : Nat) : Int) else 0
def chL (tr : List Int) (n : Nat) : List (List Int) := [chR tr n 0, chR tr n 1, chR tr n 2]
theorem chL_row (tr : List Int) (n k : Nat) (hk : k < 3) : rowI (chL tr n) k = chR tr n k := by
  match k, hk with
  | 0, _ => rfl
  | 1, _ => rfl
  | 2, _ => rfl
theorem chR_at (tr : List Int) (n k i : Nat) (hi : i ≤ n) : nth (chR tr n k) i = if i < n ∧ nth tr (2 * i + 1) = 16 + (k : Int) then ((pow2 (i + 1) : Nat) : Int) else 0 := by
  unfold chR
  rw [nth_getElem _ _ (by simp; omega)]; simp
theorem chR_len (tr : List Int) (n k : Nat) : (chR tr n k).length = n + 1 := by simp [chR]
theorem pow2_mono {a b : Nat} (h : a ≤ b) : pow2 a ≤ pow2 b := Nat.pow_le_pow_right (by decide) h
theorem chR_rel (tr : List Int) {n : Nat} (hn : n ≤ 20) (k : Nat) : Rel (n + 1) (chR tr n k) := by
  refine ⟨chR_len _ _ _, by omega, fun i hi => ?_, fun i hi => ?_⟩
  · rw [chR_len] at hi
    rw [chR_at _ _ _ _ (by omega)]
    have : pow2 (i + 1) ≤ pow2 21 := pow2_mono (by omega)
    have h21 : pow2 21 = 2097152 := by decide
    split <;> omega
  · unfold natAt
    rw [chR_at _ _ _ _ (by omega)]
    split
    · rename_i h
      rw [Int.toNat_natCast]
      exact Nat.pow_lt_pow_right (by decide) (by omega)
    · exact Nat.pos_of_ne_zero (by simp)
theorem by_chain (tr : List Int) {n k i : Nat} (hi : i ≤ n) (j : Nat) : By (chR tr n k) i j ↔ i < n ∧ nth tr (2 * i + 1) = 16 + (k : Int) ∧ j = i + 1 := by
  unfold By natAt
  rw [chR_at _ _ _ _ hi]
  split
  · rename_i h
    rw [Int.toNat_natCast, testBit_pow2, decide_eq_true_eq]
    exact ⟨fun e => ⟨h.1, h.2, e.symm⟩, fun e => e.2.2.symm⟩
  · rename_i h
    simp only [Int.toNat_zero, Nat.zero_testBit, Bool.false_eq_true, false_iff]
    exact fun e => h ⟨e.1, e.2.1⟩
theorem atom_four {x : Nat} (h : x < 4) : (x.testBit 0).toNat + 2 * (x.testBit 1).toNat = x := by
  match x, h with
  | 0, _ => rfl
  | 1, _ => rfl
  | 2, _ => rfl
  | 3, _ => rfl
theorem ch_atom {tr : List Int} {n i : Nat} (hv : tvB tr = true) (hl : tr.length = 2 * n + 1) (hi : i ≤ n) : atomI (chP tr 0 n) (chP tr 1 n) i = (nth tr (2 * i)).toNat := by
  have h := tvB_tok hv (show 2 * i < tr.length by omega)
  rw [tokB_even (by omega)] at h
  simp only [inR, decide_eq_true_eq] at h
  have key : ∀ b, (sumN (fun k => (nth tr (2 * k)).toNat.testBit b) (n + 1)).testBit i = (nth tr (2 * i)).toNat.testBit b := fun b => by
    rw [Bool.eq_iff_iff, testBit_sumN]
    exact ⟨fun e => e.2, fun e => ⟨by omega, e⟩⟩
  unfold atomI chP
  rw [Int.toNat_natCast, Int.toNat_natCast, key, key]
  exact atom_four (by omega)
section
variable {tr : List Int} {n : Nat}
local notation "RunC" => Run (chP tr 0 n) (chP tr 1 n) (chL tr n)
theorem runC_len : ∀ (m : Nat) (t : Kt) (i u : Nat), i ≤ n → RunC m t i u → u = i + m ∧ u ≤ n
  | 0, t, i, u, hi, h => by obtain ⟨rfl, -⟩ := h; exact ⟨rfl, hi⟩
  | m + 1, t, i, u, hi, h => by
    obtain ⟨k, j, r, hk, hr, hb, h2⟩ := h
    rw [chL_row _ _ _ hk] at hb
    obtain ⟨h3, h4, rfl⟩ := (by_chain tr hi j).1 hb
    have := runC_len m r (i + 1) u (by omega) h2
    omega
theorem runC_step (hv : tvB tr = true) (hl : tr.length = 2 * n + 1) {t : Kt} (hg : t.Good) {k : Nat} (hk : k < n) :
    (∃ r : Kt, r.Good ∧ r.words ∈ setL t.words tr k ∧ RunC (n - k) r k n) ↔ (∃ r : Kt, r.Good ∧ r.words ∈ setL t.words tr (k + 1) ∧ RunC (n - (k + 1)) r (k + 1) n) := by
  have hodd := tvB_tok hv (show 2 * k + 1 < tr.length by omega)
  rw [tokB_odd (by omega)] at hodd
  simp only [inR, decide_eq_true_eq] at hodd
  have ha := ch_atom hv hl (i := k) (by omega)
  have hn : n - k = (n - (k + 1)) + 1 := by omega
  rw [hn]
  constructor
  · rintro ⟨r, hr, hm, x, j, s, hx, hs, hb, h2⟩
    rw [chL_row _ _ _ hx] at hb
    obtain ⟨h3, h4, rfl⟩ := (by_chain tr (by omega) j).1 hb
    have hsg : s.Good := pd_good r hr s (part_pd _ _ (by omega) r s hs)
    refine ⟨s, hsg, ?_, h2⟩
    unfold setL
    rw [mem_ordL, List.mem_flatMap]
    refine ⟨_, hm, ?_⟩
    rw [treeW_words hr, mem_partsL]
    exact ⟨s, by rw [← ha, h4]; exact hs, rfl⟩
  · rintro ⟨s, hs, hm, h2⟩
    unfold setL at hm
    rw [mem_ordL, List.mem_flatMap] at hm
    obtain ⟨p', hp', hm⟩ := hm
    obtain ⟨r, hr, rfl, -⟩ := left_set hg hv k (by omega) p' hp'
    rw [treeW_words hr, mem_partsL] at hm
    obtain ⟨r', hr', he⟩ := hm
    have hr'g : r'.Good := pd_good r hr r' (part_pd _ _ (by omega) r r' hr')
    obtain rfl := Kt.words_inj hr'g hs he
    obtain ⟨x, hx⟩ : ∃ x : Nat, nth tr (2 * k + 1) = 16 + (x : Int) := ⟨(nth tr (2 * k + 1) - 16).toNat, by omega⟩
    refine ⟨r, hr, hp', x, k + 1, r', by omega, by rw [ha, ← hx]; exact hr', ?_, h2⟩
    rw [chL_row _ _ _ (by omega)]
    exact (by_chain tr (by omega) _).2 ⟨hk, hx, rfl⟩
theorem runC_all (hv : tvB tr = true) (hl : tr.length = 2 * n + 1) {t : Kt} (hg : t.Good) : ∀ k, k ≤ n → (RunC n t 0 n ↔ ∃ r : Kt, r.Good ∧ r.words ∈ setL t.words tr k ∧ RunC (n - k) r k n)
  | 0, _ => by
    constructor
    · intro h; exact ⟨t, hg, by simp [setL], h⟩
    · rintro ⟨r, hr, hm, h⟩
      simp [setL] at hm
      rw [← Kt.words_inj hr hg hm]; exact h
  | k + 1, hk => (runC_all hv hl hg k (by omega)).trans (runC_step hv hl hg (by omega))
/-- A trace of an expression is a way through its chain. -/
theorem tb_leads (hv : tvB tr = true) (hl : tr.length = 2 * n + 1) {t : Kt} (hg : t.Good) (hk : kvB t.words = true) : tbB t.words tr = true ↔ t.Leads (chP tr 0 n) (chP tr 1 n) (n + 1) (chL tr n) 0 n := by
  have hl41 := (tvB_len hv).2
  rw [leads_iff_run (fun k hk => by rw [chL_row _ _ _ hk]; exact chR_rel tr (by omega) k) hg (by omega)]
  have h1 : (∃ m, RunC m t 0 n) ↔ RunC n t 0 n := by
    constructor
    · rintro ⟨m, h⟩
      obtain rfl : n = m := by have := runC_len m t 0 n (by omega) h; omega
      exact h
    · exact fun h => ⟨n, h⟩
  rw [h1, runC_all hv hl hg n (Nat.le_refl _)]
  unfold tbB
  rw [hk, hv, Bool.true_and, Bool.true_and, List.any_eq_true, hl, show (2 * n + 1) / 2 = n by omega, show 2 * n + 1 - 1 = 2 * n by omega, Nat.sub_self]
  have ha := ch_atom hv hl (i := n) (Nat.le_refl _)
  constructor
  · rintro ⟨x, hx, he⟩
    obtain ⟨r, hr, rfl, -⟩ := left_set hg hv n (by omega) x hx
    rw [treeW_words hr] at he
    exact ⟨r, hr, hx, rfl, by rw [ha]; exact he⟩
  · rintro ⟨r, hr, hx, -, he⟩
    rw [ha] at he
    exact ⟨_, hx, by rw [treeW_words hr]; exact he⟩
end
theorem tv_half {tr : List Int} (hv : tvB tr = true) : ∃ n, tr.length = 2 * n + 1 := ⟨tr.length / 2, by have := tvB_len hv; omega⟩
/-- Two expressions that lead alike have the same traces. -/
theorem tb_alike {s t : Kt} (hs : s.Good) (ht : t.Good) (h : ∀ p q st ll i u, i < st → (s.Leads p q st ll i u ↔ t.Leads p q st ll i u)) : eqF s.words t.words ≠ 0 := by
  refine eqF_zero fun tr hv h1 h2 => ?_
  obtain ⟨n, hn⟩ := tv_half hv
  rw [Bool.eq_iff_iff, tb_leads hv hn hs (auB_kv h1).1, tb_leads hv hn ht (auB_kv h2).1]
  exact h _ _ _ _ _ _ (by omega)
/-- Again and again is nothing, or once, and then again and again. -/
theorem eqF_star {t : Kt} (ht : t.Good) : eqF (Kt.star t).words (Kt.two 20 (.leaf 15) (.two 19 t (.star t))).words ≠ 0 := by
  refine tb_alike ht ⟨.inr rfl, ⟨by decide, by decide⟩, .inl rfl, ht, ht⟩ fun p q st ll i u hi => ?_
  rw [leads_plus, leads_then, leads_15]
  constructor
  · intro h
    cases (show Rtc (fun x y => x < st ∧ t.Leads p q st ll x y) i u from h) with
    | refl => exact .inl rfl
    | head h1 h2 => exact .inr ⟨_, h1.2, h2⟩
  · rintro (rfl | ⟨k, h1, h2⟩)
    · exact Rtc.refl _
    · exact Rtc.head ⟨hi, h1⟩ h2
theorem eqF_sum {s t : Kt} (hs : s.Good) (ht : t.Good) : eqF (Kt.star (.two 20 s t)).words (Kt.two 19 (.star s) (.star (.two 19 t (.star s)))).words ≠ 0 := by
  refine tb_alike ⟨.inr rfl, hs, ht⟩ ⟨.inl rfl, hs, .inl rfl, ht, hs⟩ fun p q st ll i u hi => ?_
  rw [leads_then]
  constructor
  · intro h
    replace h : Rtc (fun x y => x < st ∧ (s.Leads p q st ll x y ∨ t.Leads p q st ll x y)) i u := h
    clear hi
    induction h with
    | refl i => exact ⟨i, Rtc.refl _, Rtc.refl _⟩
    | @head i v u h1 h2 ih =>
      obtain ⟨m, h3, h4⟩ := ih
      rcases h1 with ⟨h0, h1 | h1⟩
      · exact ⟨m, Rtc.head ⟨h0, h1⟩ h3, h4⟩
      · exact ⟨i, Rtc.refl _, Rtc.head ⟨h0, v, h1, h3⟩ h4⟩
  · rintro ⟨k, h1, h2⟩
    have hA : ∀ {i k}, Rtc (fun x y => x < st ∧ s.Leads p q st ll x y) i k → Rtc (fun x y => x < st ∧ (s.Leads p q st ll x y ∨ t.Leads p q st ll x y)) i k := fun h => h.mono fun x y e => ⟨e.1, .inl e.2⟩
    have hB : ∀ {k u}, Rtc (fun x y => x < st ∧ ∃ z, t.Leads p q st ll x z ∧ Rtc (fun x y => x < st ∧ s.Leads p q st ll x y) z y) k u → Rtc (fun x y => x < st ∧ (s.Leads p q st ll x y ∨ t.Leads p q st ll x y)) k u := by
      intro k u h
      induction h with
      | refl i => exact Rtc.refl _
      | head h1 _ ih =>
        obtain ⟨h0, z, h2, h3⟩ := h1
        exact Rtc.head ⟨h0, .inr h2⟩ ((hA h3).trans ih)
    exact (hA h1).trans (hB h2)
/-- One or another. -/
theorem tb_plus {s t : Kt} (hs : s.Good) (ht : t.Good) (hk : kvB (Kt.two 20 s t).words = true) {tr : List Int} (hv : tvB tr = true) : tbB (Kt.two 20 s t).words tr = (tbB s.words tr || tbB t.words tr) := by
  obtain ⟨n, hn⟩ := tv_half hv
  have hl := (kvB_len hk).2
  have h1 : (Kt.two 20 s t).words.length = s.words.length + t.words.length + 1 := by simp [Kt.words]; omega
  rw [Bool.eq_iff_iff, Bool.or_eq_true, tb_leads hv hn (show (Kt.two 20 s t).Good from ⟨.inr rfl, hs, ht⟩) hk, tb_leads hv hn hs (kvB_words_true hs (by omega)), tb_leads hv hn ht (kvB_words_true ht (by omega)), leads_plus]
end Go.Kt
