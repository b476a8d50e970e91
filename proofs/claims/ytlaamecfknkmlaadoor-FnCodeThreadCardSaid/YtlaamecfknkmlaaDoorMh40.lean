/- Merged texts: contracts and plain lemmas (Code2). -/
import Derived.Test.YtlaamecfknkmlaaDoorMh22
/- Plain law: codes with jumps saved, element by element. No program in sight. -/
namespace Go.Kt
set_option linter.unusedVariables false
open Go.RowKit

/-- How many instructions the answer has. -/
def cvN (n : Nat) (L : List Int) : Nat := if cvB n L then n else 0
theorem cvN_true {n : Nat} {L : List Int} (h : cvB n L = true) : cvN n L = n := by unfold cvN; rw [h]; rfl
theorem cvN_false {n : Nat} {L : List Int} (h : cvB n L = false) : cvN n L = 0 := by unfold cvN; rw [h]; rfl
/-- Where jumps end, -1 if they go round. -/
def hopI (L : List Int) (f a : Nat) : Int := match hop L f a with | some t => ((t : Nat) : Int) | none => -1
theorem hopI_some {L : List Int} {f a m : Nat} (h1 : ∀ j, j < m → kd L (pos L a j) = 2) (h2 : kd L (pos L a m) ≠ 2) (h3 : m < f) : hopI L f a = ((pos L a m : Nat) : Int) := by
  unfold hopI; rw [hop_some L f a m h1 h2 h3]
theorem hopI_none {L : List Int} {f a : Nat} (h : ∀ j, j < f → kd L (pos L a j) = 2) : hopI L f a = -1 := by
  unfold hopI; rw [hop_none L f a h]
theorem thr_some {n : Nat} {L : List Int} {k : Nat} (hk : kd L k = 1 ∨ kd L k = 2) (h : 0 ≤ hopI L (n + 1) (tg L k).toNat) : thr n L k = hopI L (n + 1) (tg L k).toNat := by
  unfold hopI at h ⊢
  unfold thr
  rw [if_pos hk]
  cases hh : hop L (n + 1) (tg L k).toNat with
  | none => rw [hh] at h; simp at h
  | some t => rfl
theorem thr_none {n : Nat} {L : List Int} {k : Nat} (hk : kd L k = 1 ∨ kd L k = 2) (h : hopI L (n + 1) (tg L k).toNat < 0) : thr n L k = tg L k := by
  unfold hopI at h
  unfold thr
  rw [if_pos hk]
  cases hh : hop L (n + 1) (tg L k).toNat with
  | none => rfl
  | some t => rw [hh] at h; simp at h; omega
theorem thr_goes {n : Nat} {L : List Int} (hv : ∀ i, i < n → insB n (kd L i) (ag L i) (tg L i) = true) {k : Nat} (hk : k < n) (hkd : kd L k = 1 ∨ kd L k = 2) : 0 ≤ thr n L k ∧ thr n L k < n := by
  have hg := insB_goes (hv k hk) hkd
  unfold thr
  rw [if_pos hkd]
  cases hh : hop L (n + 1) (tg L k).toNat with
  | none => exact hg
  | some t =>
    have hlt : ∀ f a, a < n → hop L f a = some t → t < n := by
      intro f
      induction f with
      | zero => intro a ha h; cases h
      | succ f ih =>
        intro a ha h
        simp only [hop] at h
        by_cases h2 : kd L a = 2
        · rw [if_pos h2] at h
          have := insB_goes (hv a ha) (.inr h2)
          exact ih _ (by omega) h
        · rw [if_neg h2] at h
          have := Option.some.inj h
          omega
    have := hlt _ _ (by omega) hh
    exact ⟨by simp, by simp; omega⟩
/-- The first k elements. -/
def frontTo (L : List Int) (k : Nat) : List Int := L.take (k * 3)
theorem frontTo_zero (L : List Int) : frontTo L 0 = [] := by simp [frontTo]
theorem frontTo_end (L : List Int) (n : Nat) (h : L.length = n * 3) : frontTo L n = L := by unfold frontTo; rw [← h]; exact List.take_length
theorem frontTo_succ (L : List Int) (n k : Nat) (hl : L.length = n * 3) (h : k < n) : frontTo L (k + 1) = frontTo L k ++ [nth L (k * 3), nth L (k * 3 + 1), nth L (k * 3 + 2)] := by
  unfold frontTo
  have h0 : k * 3 < L.length := by omega
  have h1 : k * 3 + 1 < L.length := by omega
  have h2 : k * 3 + 2 < L.length := by omega
  rw [show (k + 1) * 3 = k * 3 + 1 + 1 + 1 by omega, List.take_succ_eq_append_getElem h2, List.take_succ_eq_append_getElem h1, List.take_succ_eq_append_getElem h0, nth_getElem L _ h0, nth_getElem L _ h1, nth_getElem L _ h2]
  simp only [List.append_assoc, List.cons_append, List.nil_append]
theorem thr_three (n : Nat) (L : List Int) (k : Nat) (h : k < n) : nth (thrTo n L n) (k * 3) = nth L (k * 3) ∧ nth (thrTo n L n) (k * 3 + 1) = nth L (k * 3 + 1) ∧ nth (thrTo n L n) (k * 3 + 2) = thr n L k := by
  refine ⟨?_, ?_, ?_⟩
  · rw [thrTo_get n L n _ (by omega), if_neg (by omega)]
  · rw [thrTo_get n L n _ (by omega), if_neg (by omega)]
  · rw [thrTo_get n L n _ (by omega), if_pos (by omega), show (k * 3 + 2) / 3 = k by omega]
/-- append of a slice of structs that is not empty. -/
theorem want_append_inss {P : Program} {ops : Array Oper} {rest : List Oper} {o : Oper} {a : Act} {Q : Exit → Act → World → Prop} {w : World} (hw : Region.wanted o (yielded ops a.tmps) = true) (s x : Operand) (t : TypeId)
    (ho : o.op = .call { callee := .builtin .append, args := #[s, x], argTypes := #[t, t] }) (B E : Nat) (ht : P.underlying t = some (.slice E))
    (hinfo : (P.info? E).map (fun i => (i.zero, i.size, i.bytes)) = some (some (.agg #[.int .i64 0, .int .i64 0, .int .i64 0]), 3, 24))
    (v : Value) (n : Nat) (L : List Int) (hs : a.eval s = v) (hown : OwnF w B E v n L) (ax : Option Addr) (m cx : Nat) (R : List Int) (hx : a.eval x = .slice ax m cx) (hi : FlatAt w ax m R) (hm : 0 < m)
    (hlen : n + m ≤ 1099511627776) (hB : B ≤ w.heap.size)
    (h : ∀ v' w', OwnF w' B E v' (n + m) (L ++ R) → w.grownBy w' v.ownBlock → wpList P ops Q rest (a.put o.dst v') w') : wpList P ops Q (o :: rest) a w := by
  obtain ⟨i, hi', hz0, hz1, hz2⟩ := info_parts hinfo
  obtain ⟨hl, b, off, h1, h2⟩ := hi
  obtain ⟨rfl, hb⟩ := h1 hm
  refine BigFrame.wpList_want hw fun K hK' => ?_
  refine wp_append_own w s x t ho B E i _ 3 24 ht hi' hz0 hz1 hz2 rfl (by decide) v n (L.map (Value.int .i64)) hs hown ⟨b, off, none⟩ m cx (R.map (Value.int .i64)) hx (by rw [List.length_map]; exact hl) ?_ ?_ (by unfold maxLen; omega) (by omega) hB ?_
  · intro j u' hj
    have hjl : j < R.length := by have := (List.getElem?_eq_some_iff.1 hj).1; simpa using this
    rw [map_get R j hjl, Option.some.injEq] at hj
    subst hj
    have hadd : (⟨b, off, none⟩ : Addr).add j = ⟨b, off + j, none⟩ := by unfold Addr.add; split <;> simp_all
    rw [hadd]
    exact h2 j (by omega)
  · intro u' hu
    obtain ⟨q, _, rfl⟩ := List.mem_map.1 hu
    rfl
  · intro v' w' h1 h2 _
    refine hK' _ _ (h v' w' ?_ h2)
    unfold OwnF
    rw [List.map_append]
    exact h1
end Go.Kt
