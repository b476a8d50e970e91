/- Merged texts: contracts and plain lemmas (Run). -/
import Derived.Test.YtlaamecfknkmlaaDoorMh42
import Derived.Test.YtlaamecfknkmlaaDoorMh6
/- Plain law: where codes end, and that jumps to jumps can be saved. No program in sight. -/
namespace Go.Kt
set_option linter.unusedVariables false
open Go.RowKit

/-- The next instruction and state. -/
def nxt (p q : Int) (ll : List (List Int)) (L : List Int) (c : Nat × Nat) : Nat × Nat :=
  if kd L c.1 = 0 then (c.1 + 1, Nat.log2 (natAt (rowI ll ((ag L c.1).toNat - 16)) c.2))
  else if kd L c.1 = 1 then ((if (ag L c.1).toNat.testBit (atomI p q c.2) then c.1 + 1 else (tg L c.1).toNat), c.2)
  else if kd L c.1 = 2 then ((tg L c.1).toNat, c.2)
  else c
def run (p q : Int) (ll : List (List Int)) (L : List Int) (s : Nat) : Nat → Nat × Nat
  | 0 => (0, s)
  | k + 1 => nxt p q ll L (run p q ll L s k)
theorem run_add (p q : Int) (ll : List (List Int)) (L : List Int) (s i j : Nat) (h : run p q ll L s i = run p q ll L s j) : ∀ d, run p q ll L s (i + d) = run p q ll L s (j + d)
  | 0 => h
  | d + 1 => by
    have := run_add p q ll L s i j h d
    rw [← Nat.add_assoc, ← Nat.add_assoc]
    simp only [run]
    rw [this]
/-- Not ended ahead of the k-th. -/
def Going (p q : Int) (ll : List (List Int)) (L : List Int) (s k : Nat) : Prop := ∀ j, j < k → kd L (run p q ll L s j).1 ≠ 3
/-- The answer x, y. -/
def RunIs (p q : Int) (ll : List (List Int)) (L : List Int) (s N : Nat) (x y : Int) : Prop :=
  (∃ k, k < N ∧ Going p q ll L s k ∧ kd L (run p q ll L s k).1 = 3 ∧ x = ((run p q ll L s k).2 : Nat) ∧ y = ((k + 1 : Nat) : Int)) ∨ (Going p q ll L s N ∧ x = -1 ∧ y = 0)
theorem RunIs.unique {p q : Int} {ll : List (List Int)} {L : List Int} {s N : Nat} {x y x' y' : Int} (h : RunIs p q ll L s N x y) (h' : RunIs p q ll L s N x' y') : x = x' ∧ y = y' := by
  rcases h with ⟨k, hk, hg, he, rfl, rfl⟩ | ⟨hg, rfl, rfl⟩ <;> rcases h' with ⟨k', hk', hg', he', rfl, rfl⟩ | ⟨hg', rfl, rfl⟩
  · have : k = k' := by
      rcases Nat.lt_trichotomy k k' with h | h | h
      · exact absurd he (hg' k h)
      · exact h
      · exact absurd he' (hg k' h)
    subst this
    exact ⟨rfl, rfl⟩
  · exact absurd he (hg' k hk)
  · exact absurd he' (hg k' hk')
  · exact ⟨rfl, rfl⟩
/-- What a certain model's rows are. -/
def OneRows (st : Nat) (ll : List (List Int)) : Prop := ∀ k s, k < 3 → s < st → ∃ j, j < st ∧ natAt (rowI ll k) s = pow2 j
theorem log2_pow2 (j : Nat) : Nat.log2 (pow2 j) = j := Nat.log2_two_pow
/-- The instruction and state stay in their bounds. -/
theorem run_in {p q : Int} {ll : List (List Int)} {n st : Nat} {L : List Int} {s : Nat} (hv : cvB n L = true) (ho : OneRows st ll) (hs : s < st) : ∀ k, (run p q ll L s k).1 < n ∧ (run p q ll L s k).2 < st
  | 0 => ⟨(cvB_bounds hv).1, hs⟩
  | k + 1 => by
    obtain ⟨h1, h2⟩ := run_in (p := p) (q := q) hv ho hs k
    obtain ⟨hn, h40, hlast, hall⟩ := cvB_bounds hv
    have hi := hall _ h1
    simp only [run]
    generalize run p q ll L s k = c at *
    have hnl : kd L c.1 < 2 → c.1 + 1 < n := fun hk => by
      rcases Nat.lt_or_ge (c.1 + 1) n with h | h
      · exact h
      · have : c.1 = n - 1 := by omega
        rw [← this] at hlast; omega
    unfold nxt
    by_cases h0 : kd L c.1 = 0
    · rw [if_pos h0]
      rw [h0] at hi
      have ha : 16 ≤ ag L c.1 ∧ ag L c.1 ≤ 18 := by
        simp [insB] at hi; exact hi.1
      obtain ⟨j, hj, he⟩ := ho ((ag L c.1).toNat - 16) c.2 (by omega) h2
      refine ⟨hnl (by omega), ?_⟩
      show Nat.log2 _ < st
      rw [he, log2_pow2]; exact hj
    · rw [if_neg h0]
      by_cases h1' : kd L c.1 = 1
      · rw [if_pos h1']
        have hg := insB_goes hi (.inl h1')
        refine ⟨?_, h2⟩
        show (if _ then _ else _) < n
        split
        · exact hnl (by omega)
        · exact (Int.toNat_lt hg.1).2 hg.2
      · rw [if_neg h1']
        by_cases h2' : kd L c.1 = 2
        · rw [if_pos h2']
          have hg := insB_goes hi (.inr h2')
          exact ⟨(Int.toNat_lt hg.1).2 hg.2, h2⟩
        · rw [if_neg h2']
          exact ⟨h1, h2⟩
theorem run_jump (p q : Int) (ll : List (List Int)) (L : List Int) (s k : Nat) : ∀ m, (∀ j, j < m → kd L (pos L (run p q ll L s k).1 j) = 2) → (run p q ll L s (k + m) = (pos L (run p q ll L s k).1 m, (run p q ll L s k).2)) 
  | 0, _ => rfl
  | m + 1, h => by
    have ih := run_jump p q ll L s k m (fun j hj => h j (by omega))
    rw [← Nat.add_assoc]
    simp only [run, pos]
    rw [ih]
    have h2 := h m (by omega)
    unfold nxt
    simp only
    rw [if_neg (by rw [h2]; decide), if_neg (by rw [h2]; decide), if_pos h2]
theorem hop_is (L : List Int) : ∀ (f a t : Nat), hop L f a = some t → ∃ m, m < f ∧ t = pos L a m ∧ (∀ j, j < m → kd L (pos L a j) = 2) ∧ kd L t ≠ 2
  | 0, a, t, h => by cases h
  | f + 1, a, t, h => by
    simp only [hop] at h
    by_cases h2 : kd L a = 2
    · rw [if_pos h2] at h
      obtain ⟨m, hm, ht, hj, hn⟩ := hop_is L f _ t h
      refine ⟨m + 1, by omega, by rw [ht, pos_succ], fun j hj' => ?_, hn⟩
      cases j with
      | zero => exact h2
      | succ j => rw [← pos_succ]; exact hj j (by omega)
    · rw [if_neg h2] at h
      obtain rfl := Option.some.inj h
      exact ⟨0, by omega, rfl, fun j hj => absurd hj (Nat.not_lt_zero _), h2⟩
theorem hop_is_none (L : List Int) : ∀ (f a : Nat), hop L f a = none → ∀ j, j < f → kd L (pos L a j) = 2
  | 0, a, h, j, hj => absurd hj (Nat.not_lt_zero _)
  | f + 1, a, h, j, hj => by
    simp only [hop] at h
    by_cases h2 : kd L a = 2
    · rw [if_pos h2] at h
      cases j with
      | zero => exact h2
      | succ j => rw [← pos_succ]; exact hop_is_none L f _ h j (by omega)
    · rw [if_neg h2] at h; cases h
/-! ### the code with jumps saved -/
theorem kd_thr (n : Nat) (L : List Int) {i : Nat} (h : i < n) : kd (thrTo n L n) i = kd L i := by
  unfold kd; rw [thrTo_get n L n _ (by omega), if_neg (by omega)]
theorem ag_thr (n : Nat) (L : List Int) {i : Nat} (h : i < n) : ag (thrTo n L n) i = ag L i := by
  unfold ag; rw [thrTo_get n L n _ (by omega), if_neg (by omega)]
theorem tg_thr (n : Nat) (L : List Int) {i : Nat} (h : i < n) : tg (thrTo n L n) i = thr n L i := by
  unfold tg; rw [thrTo_get n L n _ (by omega), if_pos (by omega), show (i * 3 + 2) / 3 = i by omega]
theorem thr_toNat (n : Nat) (L : List Int) (i : Nat) (hk : kd L i = 1 ∨ kd L i = 2) :
    ((thr n L i).toNat = (tg L i).toNat) ∨ ∃ m, (thr n L i).toNat = pos L (tg L i).toNat m ∧ ∀ j, j < m → kd L (pos L (tg L i).toNat j) = 2 := by
  unfold thr
  rw [if_pos hk]
  cases hh : hop L (n + 1) (tg L i).toNat with
  | none => exact .inl rfl
  | some t =>
    obtain ⟨m, -, ht, hj, -⟩ := hop_is L _ _ _ hh
    exact .inr ⟨m, by rw [← ht]; simp, hj⟩
/-- The run of the code with jumps saved is that of the code, some jumps farther. -/
theorem run_thr {p q : Int} {ll : List (List Int)} {n st : Nat} {L : List Int} {s : Nat} (hv : cvB n L = true) (ho : OneRows st ll) (hs : s < st) : ∀ k, Going p q ll (thrTo n L n) s k →
    ∃ f, k ≤ f ∧ run p q ll (thrTo n L n) s k = run p q ll L s f ∧ Going p q ll L s f
  | 0, _ => ⟨0, Nat.le_refl _, rfl, fun j hj => absurd hj (Nat.not_lt_zero _)⟩
  | k + 1, hg => by
    obtain ⟨f, hf, he, hgf⟩ := run_thr (p := p) (q := q) hv ho hs k (fun j hj => hg j (by omega))
    have hk3 := hg k (by omega)
    obtain ⟨h1, h2⟩ := run_in (p := p) (q := q) (s := s) hv ho hs f
    rw [he, kd_thr n L h1] at hk3
    -- the next of both
    have hgo : Going p q ll L s (f + 1) := fun j hj => by
      rcases Nat.lt_or_ge j f with h | h
      · exact hgf j h
      · obtain rfl : j = f := by omega
        exact hk3
    have hthis : run p q ll (thrTo n L n) s (k + 1) = nxt p q ll (thrTo n L n) (run p q ll L s f) := by simp only [run]; rw [he]
    have hthat : run p q ll L s (f + 1) = nxt p q ll L (run p q ll L s f) := rfl
    have hjump : ∀ t, run p q ll L s (f + 1) = ((tg L (run p q ll L s f).1).toNat, (run p q ll L s f).2) → kd L (run p q ll L s f).1 = 1 ∨ kd L (run p q ll L s f).1 = 2 → t = ((thr n L (run p q ll L s f).1).toNat, (run p q ll L s f).2) →
        ∃ f', k + 1 ≤ f' ∧ t = run p q ll L s f' ∧ Going p q ll L s f' := fun t e1 hk ht => by
      rcases thr_toNat n L _ hk with h | ⟨m, hm, hj⟩
      · exact ⟨f + 1, by omega, by rw [e1, ht, h], hgo⟩
      · have hrj := run_jump p q ll L s (f + 1) m (by rw [e1]; exact hj)
        refine ⟨f + 1 + m, by omega, by rw [hrj, e1, ht, hm], fun j hj' => ?_⟩
        rcases Nat.lt_or_ge j (f + 1) with h | h
        · exact hgo j h
        · obtain ⟨d, rfl⟩ : ∃ d, j = f + 1 + d := ⟨j - (f + 1), by omega⟩
          have := run_jump p q ll L s (f + 1) d (fun i hi => by rw [e1]; exact hj i (by omega))
          rw [this, e1]
          have := hj d (by omega)
          simp only [this]
          decide
    rw [hthis]
    unfold nxt
    rw [kd_thr n L h1, ag_thr n L h1, tg_thr n L h1]
    unfold nxt at hthat
    generalize run p q ll L s f = c at *
    by_cases h0 : kd L c.1 = 0
    · rw [if_pos h0] at hthat ⊢
      exact ⟨f + 1, by omega, hthat.symm, hgo⟩
    · rw [if_neg h0] at hthat ⊢
      by_cases h1' : kd L c.1 = 1
      · rw [if_pos h1'] at hthat ⊢
        by_cases hb : (ag L c.1).toNat.testBit (atomI p q c.2) = true
        · rw [if_pos hb] at hthat ⊢
          exact ⟨f + 1, by omega, hthat.symm, hgo⟩
        · rw [if_neg hb] at hthat ⊢
          exact hjump _ hthat (.inl h1') rfl
      · rw [if_neg h1'] at hthat ⊢
        by_cases h2' : kd L c.1 = 2
        · rw [if_pos h2'] at hthat ⊢
          exact hjump _ hthat (.inr h2') rfl
        · rw [if_neg h2'] at hthat ⊢
          exact ⟨f + 1, by omega, hthat.symm, hgo⟩
/-- What has not ended for so long never ends. -/
theorem run_bound {p q : Int} {ll : List (List Int)} {n st : Nat} {L : List Int} {s : Nat} (hv : cvB n L = true) (ho : OneRows st ll) (hs : s < st) {f : Nat} (hg : Going p q ll L s f) (he : kd L (run p q ll L s f).1 = 3) : f < st * n := by
  apply Decidable.byContradiction
  intro hf
  have hin := run_in (p := p) (q := q) (s := s) hv ho hs
  have hlt : ∀ i, i ≤ st * n → (run p q ll L s i).2 * n + (run p q ll L s i).1 < st * n := fun i _ => by
    obtain ⟨h1, h2⟩ := hin i
    have : ((run p q ll L s i).2 + 1) * n ≤ st * n := Nat.mul_le_mul_right n h2
    rw [Nat.add_mul, Nat.one_mul] at this
    omega
  obtain ⟨i, j, hij, hj, hei⟩ := pigeon (st * n) (fun i => (run p q ll L s i).2 * n + (run p q ll L s i).1) hlt
  have hei : (run p q ll L s i).2 * n + (run p q ll L s i).1 = (run p q ll L s j).2 * n + (run p q ll L s j).1 := hei
  have hn : 0 < n := (cvB_bounds hv).1
  have e2 : (run p q ll L s i).2 = (run p q ll L s j).2 := by
    have a1 := Nat.mul_add_div hn (run p q ll L s i).2 (run p q ll L s i).1
    have a2 := Nat.mul_add_div hn (run p q ll L s j).2 (run p q ll L s j).1
    rw [Nat.mul_comm, Nat.div_eq_of_lt (hin i).1] at a1
    rw [Nat.mul_comm, Nat.div_eq_of_lt (hin j).1] at a2
    rw [hei] at a1
    omega
  have e1 : (run p q ll L s i).1 = (run p q ll L s j).1 := by rw [e2] at hei; omega
  have ee : run p q ll L s i = run p q ll L s j := Prod.ext e1 e2
  obtain ⟨d, rfl⟩ : ∃ d, f = j + d := ⟨f - j, by omega⟩
  have := run_add p q ll L s i j ee d
  rw [← this] at he
  exact hg (i + d) (by omega) he
/-- The first one that ends. -/
theorem first_end {p q : Int} {ll : List (List Int)} {L : List Int} {s : Nat} : ∀ K, ¬ Going p q ll L s K → ∃ k, k < K ∧ Going p q ll L s k ∧ kd L (run p q ll L s k).1 = 3
  | 0, h => absurd (fun j hj => absurd hj (Nat.not_lt_zero _)) h
  | K + 1, h => by
    by_cases hK : Going p q ll L s K
    · refine ⟨K, by omega, hK, ?_⟩
      apply Decidable.byContradiction
      intro hne
      exact h fun j hj => by
        rcases Nat.lt_or_ge j K with h' | h'
        · exact hK j h'
        · obtain rfl : j = K := by omega
          exact hne
    · obtain ⟨k, hk, h1, h2⟩ := first_end K hK
      exact ⟨k, by omega, h1, h2⟩
/-- With jumps saved a code ends in the same state, and no later. -/
theorem thr_run {p q : Int} {ll : List (List Int)} {n st : Nat} {L : List Int} {s : Nat} (hv : cvB n L = true) (ho : OneRows st ll) (hs : s < st) {x y x' y' : Int} (h : RunIs p q ll L s (st * n) x y) (h' : RunIs p q ll (thrTo n L n) s (st * n) x' y') : x = x' ∧ y' ≤ y := by
  have hin := run_in (p := p) (q := q) (s := s) hv ho hs
  rcases h' with ⟨k', hk', hg', he', rfl, rfl⟩ | ⟨hg', rfl, rfl⟩
  · obtain ⟨f, hf, hrf, hgf⟩ := run_thr (p := p) (q := q) hv ho hs k' hg'
    rw [hrf, kd_thr n L (hin f).1] at he'
    have hfN := run_bound hv ho hs hgf he'
    have := h.unique (.inl ⟨f, hfN, hgf, he', rfl, rfl⟩)
    rw [this.1, this.2, hrf]
    exact ⟨rfl, by omega⟩
  · rcases h with ⟨k, hk, hg, he, rfl, rfl⟩ | ⟨hg, rfl, rfl⟩
    · exfalso
      obtain ⟨f, hf, hrf, hgf⟩ := run_thr (p := p) (q := q) hv ho hs (k + 1) (fun j hj => hg' j (by omega))
      exact hgf k (by omega) he
    · exact ⟨rfl, Int.le_refl _⟩
/-- Done again it is the same. -/
theorem thr_again {n : Nat} {L : List Int} (hv : cvB n L = true) : thrTo n (thrTo n L n) n = thrTo n L n := by
  obtain ⟨h1, h40, hlast, hall⟩ := cvB_bounds hv
  have hposlt : ∀ a, a < n → ∀ m, (∀ j, j < m → kd L (pos L a j) = 2) → pos L a m < n := fun a ha m hm => pos_lt hall ha m hm
  have hthr : ∀ i, i < n → thr n (thrTo n L n) i = thr n L i := by
    intro i hi
    have hkd := kd_thr n L hi
    by_cases hk : kd L i = 1 ∨ kd L i = 2
    · have hg := insB_goes (hall i hi) hk
      have hlt : (tg L i).toNat < n := by omega
      cases hh : hop L (n + 1) (tg L i).toNat with
      | some t =>
        obtain ⟨m, -, ht, hj, hn2⟩ := hop_is L _ _ _ hh
        have htn : t < n := by rw [ht]; exact hposlt _ hlt m hj
        have e1 : thr n L i = (t : Int) := by unfold thr; rw [if_pos hk, hh]
        unfold thr
        rw [hkd, if_pos hk, tg_thr n L hi, e1]
        have : hop (thrTo n L n) (n + 1) ((t : Int)).toNat = some t := by
          simp only [hop, Int.toNat_natCast, kd_thr n L htn, if_neg hn2]
        rw [this, if_pos hk, hh]
      | none =>
        have hj := hop_is_none L _ _ hh
        have e1 : thr n L i = tg L i := by unfold thr; rw [if_pos hk, hh]
        -- all from there on are jumps
        have hall2 : ∀ m, kd L (pos L (tg L i).toNat m) = 2 ∧ pos L (tg L i).toNat m < n := by
          intro m
          have hb : ∀ j, j ≤ n → pos L (tg L i).toNat j < n := fun j hj' => hposlt _ hlt j (fun d hd => hj d (by omega))
          obtain ⟨a, b, hab, hbn, hpe⟩ := pigeon n (pos L (tg L i).toNat) hb
          have hper : ∀ m, ∃ m', m' ≤ n ∧ pos L (tg L i).toNat m = pos L (tg L i).toNat m' := by
            intro m
            induction m using Nat.strongRecOn with
            | ind m ih =>
              rcases Nat.lt_or_ge n m with h | h
              · obtain ⟨d, rfl⟩ : ∃ d, m = b + d := ⟨m - b, by omega⟩
                have hpp := pos_add L _ _ a b hpe d
                obtain ⟨m', hm', e⟩ := ih (a + d) (by omega)
                exact ⟨m', hm', by rw [← hpp]; exact e⟩
              · exact ⟨m, h, rfl⟩
          obtain ⟨m', hm', e⟩ := hper m
          rw [e]
          exact ⟨hj m' (by omega), hb m' hm'⟩
        -- so the saved jumps go where they went
        have hsame : ∀ m, pos (thrTo n L n) (tg L i).toNat m = pos L (tg L i).toNat m := by
          intro m
          induction m with
          | zero => rfl
          | succ m ih =>
            simp only [pos]
            rw [ih, tg_thr n L (hall2 m).2]
            have hno : hop L (n + 1) (tg L (pos L (tg L i).toNat m)).toNat = none := hop_none L _ _ fun j hj' => by
              have e : pos L (tg L (pos L (tg L i).toNat m)).toNat j = pos L (tg L i).toNat (m + 1 + j) := by
                have := pos_add L (tg L (pos L (tg L i).toNat m)).toNat (tg L i).toNat 0 (m + 1) rfl j
                rw [Nat.zero_add] at this
                exact this
              rw [e]
              exact (hall2 _).1
            unfold thr
            rw [if_pos (.inr (hall2 m).1), hno]
        unfold thr
        rw [hkd, if_pos hk, tg_thr n L hi, e1]
        have : hop (thrTo n L n) (n + 1) (tg L i).toNat = none := hop_none _ _ _ fun j hj' => by
          rw [hsame j, kd_thr n L (hall2 j).2]; exact (hall2 j).1
        rw [this, if_pos hk, hh]
    · rw [thr_same n L i hk, thr_same n _ i (by rw [hkd]; exact hk), tg_thr n L hi, thr_same n L i hk]
  apply ext_nth
  · rw [thrTo_length, thrTo_length]
  · intro j hj
    rw [thrTo_length] at hj
    rw [thrTo_get n _ n j hj]
    by_cases h : j % 3 = 2 ∧ j / 3 < n
    · rw [if_pos h, hthr _ h.2, thrTo_get n L n j hj, if_pos h]
    · rw [if_neg h]
end Go.Kt
