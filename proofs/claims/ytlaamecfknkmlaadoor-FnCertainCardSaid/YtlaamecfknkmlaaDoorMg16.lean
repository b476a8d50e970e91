/- Merged texts: contracts and plain lemmas (Rn). -/
import Derived.Test.YtlaamecfknkmlaaDoorMg15
/- Plain law: what is read as an expression has at least as many round brackets as its text. No program in sight. -/
namespace Go.Kt
set_option linter.unusedVariables false

/-- How many round brackets open in an expression's text, where so much strength is asked. -/
def pcs (t : Kt) (k : Nat) : Nat := (bs (brk (t.br k) t.txt)).count 40
def pn (t : Kt) : Nat := (bs t.txt).count 40
theorem pcs_eq (t : Kt) (k : Nat) : pcs t k = pn t + (if t.br k then 1 else 0) := by
  unfold pcs pn
  cases t.br k
  · rfl
  · rw [bs_brk_yes]
    simp [List.count_append]
theorem pcs_le (t : Kt) (k : Nat) : pcs t k ≤ pn t + 1 := by
  rw [pcs_eq]; split <;> omega
theorem pn_le (t : Kt) (k : Nat) : pn t ≤ pcs t k := by
  rw [pcs_eq]; omega
theorem pcs_1 (t : Kt) : pcs t 1 = pn t := by rw [pcs_eq, Kt.br_1]; rfl
theorem pcs_23 (t : Kt) : pcs t 2 ≤ pcs t 3 := by
  rw [pcs_eq, pcs_eq, Kt.br_2, Kt.br_3]
  cases t.top == 20 <;> simp
theorem pn_leaf (x : Int) (h : 0 ≤ x ∧ x ≤ 18) : pn (.leaf x) = 0 := by
  unfold pn Kt.txt
  split
  · obtain ⟨X, rfl⟩ := Int.eq_ofNat_of_zero_le h.1
    rcases (show X = 0 ∨ X = 1 ∨ X = 2 ∨ X = 3 ∨ X = 4 ∨ X = 5 ∨ X = 6 ∨ X = 7 ∨ X = 8 ∨ X = 9 ∨ X = 10 ∨ X = 11 ∨ X = 12 ∨ X = 13 ∨ X = 14 ∨ X = 15 by omega) with rfl | rfl | rfl | rfl | rfl | rfl | rfl | rfl | rfl | rfl | rfl | rfl | rfl | rfl | rfl | rfl
    all_goals decide +kernel
  · rcases (show x = 16 ∨ x = 17 ∨ x = 18 by omega) with rfl | rfl | rfl
    all_goals rfl
theorem pn_star (a : Kt) : pn (.star a) = pcs a 3 := by
  have e : (Kt.star a).txt = brk (a.br 3) a.txt ++ ⟨#[42]⟩ := by rw [Kt.br_3']; rfl
  unfold pn pcs
  rw [e, bs_app, List.count_append]
  rfl
theorem pn_then (a b : Kt) : pn (.two 19 a b) = pcs a 2 + pcs b 3 := by
  have e1 : (Kt.two 19 a b).txt = brk (a.top == 20) a.txt ++ ⟨#[59]⟩ ++ brk (b.top == 20 || b.top == 19) b.txt := rfl
  unfold pn pcs
  rw [e1, bs_app, bs_app, ← Kt.br_2, ← Kt.br_3, List.count_append, List.count_append]
  rfl
theorem pn_plus (a b : Kt) : pn (.two 20 a b) = pn a + pcs b 2 := by
  have e1 : (Kt.two 20 a b).txt = a.txt ++ ⟨#[43]⟩ ++ brk (b.top == 20) b.txt := rfl
  unfold pn pcs
  rw [e1, bs_app, bs_app, ← Kt.br_2, List.count_append, List.count_append]
  rfl
theorem pcs_then (a b : Kt) : pcs (.two 19 a b) 2 = pcs a 2 + pcs b 3 := by
  rw [pcs_eq, pn_then, Kt.br_2]; rfl
theorem pcs_plus (a b : Kt) : pcs (.two 20 a b) 1 = pcs a 1 + pcs b 2 := by
  rw [pcs_1, pcs_1, pn_plus]
theorem pcs_star (a : Kt) : pcs (.star a) 3 = pcs a 3 := by
  rw [pcs_eq, pn_star, Kt.br_3]; rfl
/-- What a reader reads at a strength is an expression, and its brackets are paid. -/
def Paid (k : Nat) (sub : Rdr) : Prop := ∀ x l r, sub x = some (l, r) → ∃ t : Kt, t.Good ∧ t.words = l ∧ pcs t k + r.count 40 ≤ x.count 40
theorem rTest_lt {w : List UInt8} {t : Nat} (h : rTest w = some t) : t < 16 := by
  have := List.mem_of_find?_eq_some h
  simpa using this
theorem rWord_in {w : List UInt8} {x : Int} (h : rWord w = some x) : 0 ≤ x ∧ x ≤ 18 := by
  unfold rWord at h
  split at h
  · rename_i c
    split at h
    · rename_i hc
      have h1 := UInt8.le_iff_toNat_le.1 hc.1
      have h2 := UInt8.le_iff_toNat_le.1 hc.2
      have e1 : (97 : UInt8).toNat = 97 := rfl
      have e2 : (99 : UInt8).toNat = 99 := rfl
      have := Option.some.inj h
      omega
    · cases ht : rTest [c] with
      | none => rw [ht] at h; cases h
      | some t =>
        rw [ht] at h
        have h2 := Option.some.inj h
        have h1 := rTest_lt ht
        have h3 : (t : Int) = x := h2
        omega
  · cases ht : rTest w with
    | none => rw [ht] at h; cases h
    | some t =>
      rw [ht] at h
      have h2 := Option.some.inj h
      have h1 := rTest_lt ht
      have h3 : (t : Int) = x := h2
      omega
theorem single_paid {sub : Rdr} (hs : Paid 1 sub) : Paid 3 (rSingle sub) := by
  intro x l r h
  cases x with
  | nil => cases h
  | cons c x =>
    simp only [rSingle] at h
    split at h
    · rename_i hc
      cases hx : sub x with
      | none => rw [hx] at h; cases h
      | some p =>
        obtain ⟨m, y⟩ := p
        rw [hx] at h
        obtain ⟨t, hg, hw, hp⟩ := hs _ _ _ hx
        cases y with
        | nil => cases h
        | cons d y =>
          simp only at h
          split at h
          · rename_i hd
            simp only [Option.some.injEq, Prod.mk.injEq] at h
            refine ⟨t, hg, hw.trans h.1, ?_⟩
            rw [← h.2]
            subst hc hd
            have h3 := pcs_le t 3
            rw [pcs_1] at hp
            simp only [List.count_cons, beq_self_eq_true, if_true] at hp ⊢
            omega
          · cases h
    · cases hw : rWord ((c :: x).take (wordN (c :: x))) with
      | none => rw [hw] at h; cases h
      | some y =>
        rw [hw] at h
        simp only [Option.map_some, Option.some.injEq, Prod.mk.injEq] at h
        have hin := rWord_in hw
        refine ⟨.leaf y, hin, h.1, ?_⟩
        rw [← h.2]
        have e : pcs (.leaf y) 3 = 0 := by
          rw [pcs_eq, pn_leaf y hin, Kt.br_3]
          have e1 : ((Kt.leaf y).top == 20) = false := by simp [Kt.top]; omega
          have e2 : ((Kt.leaf y).top == 19) = false := by simp [Kt.top]; omega
          rw [e1, e2]; rfl
        rw [e, Nat.zero_add]
        exact List.Sublist.count_le _ (List.drop_sublist _ _)
theorem stars_paid : ∀ (x : List UInt8) (t : Kt), t.Good → ∀ {l : List Int} {r : List UInt8}, stars t.words x = some (l, r) → ∃ u : Kt, u.Good ∧ u.words = l ∧ pcs u 3 = pcs t 3 ∧ r.count 40 ≤ x.count 40
  | [], t, hg, l, r, h => by
    simp only [stars, Option.some.injEq, Prod.mk.injEq] at h
    exact ⟨t, hg, h.1, rfl, by rw [← h.2]; exact Nat.le_refl _⟩
  | c :: x, t, hg, l, r, h => by
    unfold stars at h
    split at h
    · obtain ⟨u, h1, h2, h3, h4⟩ := stars_paid x (.star t) hg h
      refine ⟨u, h1, h2, h3.trans (pcs_star t), ?_⟩
      simp only [List.count_cons]; omega
    · simp only [Option.some.injEq, Prod.mk.injEq] at h
      exact ⟨t, hg, h.1, rfl, by rw [← h.2]; exact Nat.le_refl _⟩
theorem star_paid {sub : Rdr} (hs : Paid 1 sub) : Paid 3 (rStar sub) := by
  intro x l r h
  simp only [rStar] at h
  cases hx : rSingle sub x with
  | none => rw [hx] at h; cases h
  | some p =>
    obtain ⟨m, y⟩ := p
    rw [hx] at h
    obtain ⟨t, hg, rfl, hp⟩ := single_paid hs _ _ _ hx
    obtain ⟨u, h1, h2, h3, h4⟩ := stars_paid _ t hg h
    exact ⟨u, h1, h2, by omega⟩
theorem more_paid {sub : Rdr} {ka kb : Nat} (hs : Paid kb sub) (sign : UInt8) (op : Int) (hop : op = 19 ∨ op = 20) (hc : ∀ a b : Kt, pcs (.two op a b) ka = pcs a ka + pcs b kb) :
    ∀ (f : Nat) (t : Kt) (x : List UInt8), t.Good → ∀ {l : List Int} {r : List UInt8}, more sub sign op f t.words x = some (l, r) → ∃ u : Kt, u.Good ∧ u.words = l ∧ pcs u ka + r.count 40 ≤ pcs t ka + x.count 40
  | 0, t, x, hg, l, r, h => by cases h
  | f + 1, t, x, hg, l, r, h => by
    cases x with
    | nil =>
      simp only [more, Option.some.injEq, Prod.mk.injEq] at h
      exact ⟨t, hg, h.1, by rw [← h.2]; exact Nat.le_refl _⟩
    | cons c x =>
      simp only [more] at h
      split at h
      · cases hx : sub x with
        | none => rw [hx] at h; cases h
        | some p =>
          obtain ⟨m', y⟩ := p
          rw [hx] at h
          obtain ⟨v, hv, rfl, hp⟩ := hs _ _ _ hx
          obtain ⟨u, h1, h2, h3⟩ := more_paid hs sign op hop hc f (.two op t v) y ⟨hop, hg, hv⟩ h
          rw [hc] at h3
          refine ⟨u, h1, h2, ?_⟩
          simp only [List.count_cons]
          omega
      · simp only [Option.some.injEq, Prod.mk.injEq] at h
        exact ⟨t, hg, h.1, by rw [← h.2]; exact Nat.le_refl _⟩
theorem prod_paid {sub : Rdr} (hs : Paid 1 sub) : Paid 2 (rProd sub) := by
  intro x l r h
  simp only [rProd] at h
  cases hx : rStar sub x with
  | none => rw [hx] at h; cases h
  | some p =>
    obtain ⟨m, y⟩ := p
    rw [hx] at h
    obtain ⟨t, hg, rfl, hp⟩ := star_paid hs _ _ _ hx
    obtain ⟨u, h1, h2, h3⟩ := more_paid (star_paid hs) 59 19 (.inl rfl) pcs_then _ t y hg h
    have := pcs_23 t
    exact ⟨u, h1, h2, by omega⟩
theorem sum_paid : ∀ d, Paid 1 (rSum d)
  | 0 => fun x l r h => by cases h
  | d + 1 => by
    intro x l r h
    simp only [rSum, rSum0] at h
    have hs := sum_paid d
    cases hx : rProd (rSum d) x with
    | none => rw [hx] at h; cases h
    | some p =>
      obtain ⟨m, y⟩ := p
      rw [hx] at h
      obtain ⟨t, hg, rfl, hp⟩ := prod_paid hs _ _ _ hx
      obtain ⟨u, h1, h2, h3⟩ := more_paid (prod_paid hs) 43 20 (.inr rfl) pcs_plus _ t y hg h
      have := pn_le t 2
      rw [pcs_1] at h3
      rw [pcs_1 t] at h3
      exact ⟨u, h1, h2, by rw [pcs_1]; omega⟩
/-- What ReadKat reads: none if it can't. -/
def readF (x : List UInt8) : Option (List Int) := if x.length ≤ 199 then (match rSum (x.length + 1) x with
  | some (l, []) => if kvB l then some l else none
  | _ => none) else none
theorem testS_5 (t : Nat) (ht : t < 16) : (testS t).size ≤ 5 := by
  rcases (show t = 0 ∨ t = 1 ∨ t = 2 ∨ t = 3 ∨ t = 4 ∨ t = 5 ∨ t = 6 ∨ t = 7 ∨ t = 8 ∨ t = 9 ∨ t = 10 ∨ t = 11 ∨ t = 12 ∨ t = 13 ∨ t = 14 ∨ t = 15 by omega) with rfl | rfl | rfl | rfl | rfl | rfl | rfl | rfl | rfl | rfl | rfl | rfl | rfl | rfl | rfl | rfl
  all_goals decide +kernel
theorem brk_sz (b : Bool) (s : ByteArray) : (brk b s).size = s.size + (if b then 2 else 0) := by
  cases b
  · rfl
  · show (⟨#[40]⟩ ++ s ++ ⟨#[41]⟩ : ByteArray).size = _
    rw [ByteArray.size_append, ByteArray.size_append, sz1, sz1]
    simp only [if_true]
    omega
theorem br_23 (t : Kt) : (if t.br 2 then 2 else 0) ≤ (if t.br 3 then 2 else 0) := by
  rw [Kt.br_2, Kt.br_3]
  cases t.top == 20 <;> simp
/-- A text's length, with brackets around it where there can be some. -/
theorem Kt.txt_fit : ∀ t : Kt, t.Good → t.txt.size + (if t.br 3 then 2 else 0) ≤ 4 * t.words.length + 1
  | .leaf x, hg => by
    have hg : 0 ≤ x ∧ x ≤ 18 := hg
    have e1 : ((Kt.leaf x).top == 20) = false := by simp [Kt.top]; omega
    have e2 : ((Kt.leaf x).top == 19) = false := by simp [Kt.top]; omega
    have h1 : (Kt.leaf x).words.length = 1 := rfl
    rw [Kt.br_3, e1, e2, h1]
    unfold Kt.txt
    split
    · obtain ⟨X, rfl⟩ := Int.eq_ofNat_of_zero_le hg.1
      exact testS_5 X (by omega)
    · show 1 ≤ 5; decide
  | .star a, hg => by
    have ih := a.txt_fit hg
    have e : (Kt.star a).txt = brk (a.br 3) a.txt ++ ⟨#[42]⟩ := by rw [Kt.br_3']; rfl
    have h1 : (Kt.star a).words.length = a.words.length + 1 := by simp [Kt.words]
    have e3 : (Kt.star a).br 3 = false := by rw [Kt.br_3]; rfl
    rw [e, ByteArray.size_append, sz1, h1, e3, brk_sz]
    simp only [Bool.false_eq_true, if_false]
    omega
  | .two s a b, hg => by
    have iha := a.txt_fit hg.2.1
    have ihb := b.txt_fit hg.2.2
    have h1 : (Kt.two s a b).words.length = a.words.length + b.words.length + 1 := by simp [Kt.words]; omega
    rcases (show s = 19 ∨ s = 20 from hg.1) with rfl | rfl
    · have e1 : (Kt.two 19 a b).txt = brk (a.top == 20) a.txt ++ ⟨#[59]⟩ ++ brk (b.top == 20 || b.top == 19) b.txt := rfl
      have e3 : (Kt.two 19 a b).br 3 = true := by rw [Kt.br_3]; rfl
      rw [e1, ← Kt.br_2, ← Kt.br_3, ByteArray.size_append, ByteArray.size_append, sz1, h1, e3, brk_sz, brk_sz]
      have := br_23 a
      simp only [if_true]
      omega
    · have e1 : (Kt.two 20 a b).txt = a.txt ++ ⟨#[43]⟩ ++ brk (b.top == 20) b.txt := rfl
      have e3 : (Kt.two 20 a b).br 3 = true := by rw [Kt.br_3]; rfl
      rw [e1, ← Kt.br_2, ByteArray.size_append, ByteArray.size_append, sz1, h1, e3, brk_sz]
      have := br_23 b
      simp only [if_true]
      omega
theorem bs_len (s : ByteArray) : (bs s).length = s.size := rfl
/-- What KatText writes is read. -/
theorem readF_txt {t : Kt} (hg : t.Good) (h40 : t.words.length ≤ 40) (hv : kvB t.words = true) : readF (bs t.txt) = some t.words := by
  have hf := t.txt_fit hg
  have hl : (bs t.txt).length ≤ 199 := by rw [bs_len]; omega
  unfold readF
  rw [if_pos hl]
  have h := (reads_all t hg (bs t.txt).length (Nat.le_refl _)).sum [] (by simp) (by simp)
  rw [List.append_nil] at h
  rw [h, List.length_nil, more_end 43 20 0 _ _ (by simp)]
  simp only [hv, if_true]
theorem readF_pays {x : List UInt8} {l : List Int} (h : readF x = some l) : ∃ t : Kt, t.Good ∧ t.words = l ∧ pn t ≤ x.count 40 := by
  unfold readF at h
  split at h
  · cases hx : rSum (x.length + 1) x with
    | none => rw [hx] at h; cases h
    | some p =>
      obtain ⟨m, y⟩ := p
      rw [hx] at h
      obtain ⟨t, hg, rfl, hp⟩ := sum_paid _ _ _ _ hx
      cases y with
      | cons c y => cases h
      | nil =>
        simp only at h
        split at h
        · refine ⟨t, hg, Option.some.inj h, ?_⟩
          rw [pcs_1] at hp
          omega
        · cases h
  · cases h
end Go.Kt
