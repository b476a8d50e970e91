/- Merged texts: contracts and plain lemmas (Yl). -/
import Derived.Test.YtlaamecfknkmlaaGreatGu24
import Derived.Test.YtlaamecfknkmlaaGreatGu47
/- Plain law: what a trace leaves of an expression. No program in sight. -/
namespace Go.Kt
set_option linter.unusedVariables false

def treeW (l : List Int) : Kt := (runK l []).headD (.leaf 0)
theorem treeW_words {t : Kt} (h : t.Good) : treeW t.words = t := by unfold treeW; rw [runK_words t h]; rfl
/-- What is left behind so many steps of a trace. -/
def setL (e tr : List Int) : Nat → List (List Int)
  | 0 => [e]
  | k + 1 => ordL ((setL e tr k).flatMap fun p => partsL (nth tr (2 * k)).toNat (nth tr (2 * k + 1)) (treeW p))
def tbB (e tr : List Int) : Bool := kvB e && (tvB tr && (setL e tr (tr.length / 2)).any fun p => (treeW p).ends.testBit (nth tr (tr.length - 1)).toNat)
theorem len_sub {A L : List (List Int)} (hA : Asc A) (h : ∀ x, x ∈ A → x ∈ L) : A.length ≤ L.length := by
  have e : A = (ordL L).filter (fun x => decide (x ∈ A)) := by
    refine asc_unique hA ((asc_ordL L).filter _) fun x => ?_
    rw [List.mem_filter, mem_ordL, decide_eq_true_eq]
    exact ⟨fun hx => ⟨h x hx, hx⟩, fun hx => hx.2⟩
  have h1 := List.length_filter_le (fun x => decide (x ∈ A)) (ordL L)
  rw [← e] at h1
  have := length_ordL L
  omega
/-- Expressions left of t. -/
def Left (t : Kt) (p : List Int) : Prop := ∃ q : Kt, q.Good ∧ q.words = p ∧ (q = t ∨ q ∈ t.pd)
theorem left_part {t : Kt} (hg : t.Good) {p x : List Int} {A : Nat} {act : Int} (ha : 16 ≤ act) (hp : Left t p) (hx : x ∈ partsL A act (treeW p)) : ∃ q, q ∈ t.pd ∧ q.words = x := by
  obtain ⟨q, hq, rfl, h⟩ := hp
  rw [treeW_words hq] at hx
  obtain ⟨r, hr, rfl⟩ := mem_partsL.1 hx
  rcases h with rfl | h
  · exact ⟨r, part_pd A act ha _ r hr, rfl⟩
  · exact ⟨r, pd_closed A act ha t q h r hr, rfl⟩
theorem left_set {t : Kt} (hg : t.Good) {tr : List Int} (hv : tvB tr = true) : ∀ k, 2 * k + 1 ≤ tr.length → ∀ p, p ∈ setL t.words tr k → Left t p
  | 0, _, p, hp => by
    simp [setL] at hp; subst hp
    exact ⟨t, hg, rfl, .inl rfl⟩
  | k + 1, hk, p, hp => by
    unfold setL at hp
    rw [mem_ordL, List.mem_flatMap] at hp
    obtain ⟨p', hp', hx⟩ := hp
    have ha : 16 ≤ nth tr (2 * k + 1) := by
      have := tvB_tok hv (k := 2 * k + 1) (by omega)
      rw [tokB_odd (by omega)] at this
      simp [inR] at this; omega
    obtain ⟨q, hq, rfl⟩ := left_part hg ha (left_set hg hv k (by omega) p' hp') hx
    exact ⟨q, pd_good t hg q hq, rfl, .inr hq⟩
theorem set_len {t : Kt} (hg : t.Good) (hw : t.words.length ≤ 40) {tr : List Int} (hv : tvB tr = true) : ∀ k, 2 * k + 1 ≤ tr.length → (setL t.words tr k).length ≤ 40
  | 0, _ => by simp [setL]
  | k + 1, hk => by
    have h1 : (setL t.words tr (k + 1)).length ≤ (t.pd.map Kt.words).length := by
      refine len_sub (asc_ordL _) fun x hx => ?_
      unfold setL at hx
      rw [mem_ordL, List.mem_flatMap] at hx
      obtain ⟨p', hp', hx⟩ := hx
      have ha : 16 ≤ nth tr (2 * k + 1) := by
        have := tvB_tok hv (k := 2 * k + 1) (by omega)
        rw [tokB_odd (by omega)] at this
        simp [inR] at this; omega
      obtain ⟨q, hq, rfl⟩ := left_part hg ha (left_set hg hv k (by omega) p' hp') hx
      exact List.mem_map.2 ⟨q, hq, rfl⟩
    rw [List.length_map, pd_length] at h1
    have := acts_le t
    omega
theorem bnd_40 {t : Kt} (hw : t.words.length ≤ 40) : t.bnd ≤ 1640 := by
  have h1 := bnd_le t
  have h2 : t.words.length * (t.words.length + 1) ≤ 40 * 41 := Nat.mul_le_mul hw (by omega)
  omega
theorem left_bnd {t : Kt} (hw : t.words.length ≤ 40) {q : Kt} (h : q = t ∨ q ∈ t.pd) : q.bnd ≤ 1640 ∧ q.words.length ≤ 1640 := by
  have := bnd_40 hw
  rcases h with rfl | h
  · omega
  · have := pd_bnd t q h; omega
theorem flat_take {S : List (List Int)} {f : List Int → List (List Int)} {k : Nat} (h : k < S.length) : (S.take (k + 1)).flatMap f = (S.take k).flatMap f ++ f (rowI S k) := by
  rw [List.take_add_one, List.getElem?_eq_getElem h, List.flatMap_append, rowI_getElem _ _ h]; simp
theorem flat_len {S : List (List Int)} {f : List Int → List (List Int)} {m : Nat} (h : ∀ p, p ∈ S → (f p).length ≤ m) : ∀ k, ((S.take k).flatMap f).length ≤ k * m
  | 0 => by simp
  | k + 1 => by
    have ih := flat_len h k
    rw [Nat.succ_mul]
    by_cases hk : k < S.length
    · rw [flat_take hk, List.length_append]
      have := h (rowI S k) (by rw [rowI_getElem _ _ hk]; exact List.getElem_mem hk)
      omega
    · rw [List.take_of_length_le (by omega)] at ih ⊢
      omega
end Go.Kt
