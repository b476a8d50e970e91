/- Plain law: operations that a guard lets through: make, append of one and of a slice, on slices of ints of the call's own. No program in sight. -/
import Derived.Test.YtnhdachenckceaaBase
import Derived.BigFrame
namespace Go.Kt
set_option linter.unusedVariables false
open Go.RowKit

theorem intsAt_nil (w : World) : IntsAt w none [] := ⟨0, 0, fun h => absurd h (by simp), fun i h => absurd h (by simp)⟩
theorem want_make_int {P : Program} (w : World) {ops : Array Oper} {rest : List Oper} {o : Oper} {a : Act} {Q : Exit → Act → World → Prop} (hw : Region.wanted o (yielded ops a.tmps) = true) (l c : Operand) (t : TypeId) (hop : o.op = Op.makeSlice t l c)
    (B E : Nat) (ht : P.underlying t = some (.slice E)) (hinfo : (P.info? E).map (fun i => (i.zero, i.size, i.bytes)) = some (some (.int .i64 0), 1, 8)) (kl kc : IntKind) (n : Nat) (hl : a.eval l = .int kl n) (hc : a.eval c = .int kc n)
    (hn : n ≤ 1099511627776) (hB : B ≤ w.heap.size)
    (hK : ∀ w', OwnI w' B E (.slice (some ⟨w.heap.size, 0, none⟩) n n) (List.replicate n 0) → w.grownBy w' none → wpList P ops Q rest (a.put o.dst (.slice (some ⟨w.heap.size, 0, none⟩) n n)) w') :
    wpList P ops Q (o :: rest) a w := by
  obtain ⟨i, hi, hz0, hz1, hz2⟩ := info_parts hinfo
  refine BigFrame.wpList_want hw fun K hK' => ?_
  obtain ⟨w', hrun, r1, r2⟩ := run_make_full (P := P) w B t E i (.int .i64 0) 1 ht hi hz0 hz1 kl kc n (by rw [hz2]; omega) (by unfold maxLen; omega) hB
  unfold Oper.wp
  simp [execOp, hop, hl, hc, hrun, Result.andThen]
  refine hK' _ _ (hK w' (own_made ?_) r2)
  have e : (madeCells (Value.int .i64 0).cells (n * 1)).toList = (madeCells #[Value.int .i64 0] n).toList := by rw [Nat.mul_one]; rfl
  rw [← e]
  exact r1
theorem want_append_int {P : Program} {ops : Array Oper} {rest : List Oper} {o : Oper} {a : Act} {Q : Exit → Act → World → Prop} {w : World} (hw : Region.wanted o (yielded ops a.tmps) = true) (s x : Operand) (t : TypeId)
    (ho : o.op = .call { callee := .builtin .append, args := #[s, x], argTypes := #[t, t] }) (B E : Nat) (ht : P.underlying t = some (.slice E))
    (hinfo : (P.info? E).map (fun i => (i.zero, i.size, i.bytes)) = some (some (.int .i64 0), 1, 8))
    (v : Value) (l : List Int) (hs : a.eval s = v) (hown : OwnI w B E v l) (g : Nat) (u : Int) (hx : a.eval x = .slice (some ⟨g, 0, none⟩) 1 1) (hcell : w.cell? ⟨g, 0, none⟩ = some (.int .i64 u))
    (hlen : l.length + 1 ≤ 1099511627776) (hB : B ≤ w.heap.size)
    (h : ∀ v' w', OwnI w' B E v' (l ++ [u]) → w.grownBy w' v.ownBlock → wpList P ops Q rest (a.put o.dst v') w') : wpList P ops Q (o :: rest) a w := by
  obtain ⟨i, hi, hz0, hz1, hz2⟩ := info_parts hinfo
  refine BigFrame.wpList_want hw fun K hK' => ?_
  refine wp_append_own w s x t ho B E i (.int .i64 0) 1 8 ht hi hz0 hz1 hz2 rfl (by decide) v l.length (l.map (Value.int .i64)) hs hown ⟨g, 0, none⟩ 1 1 [.int .i64 u] hx rfl ?_ ?_ (by unfold maxLen; omega) (by omega) hB ?_
  · intro j u' hj
    match j, hj with
    | 0, hj =>
      simp only [List.getElem?_cons_zero, Option.some.injEq] at hj
      subst hj
      simpa [Addr.add] using hcell
    | j + 1, hj => simp at hj
  · intro u' hu
    simp only [List.mem_singleton] at hu
    subst hu; rfl
  · intro v' w' h1 h2 _
    refine hK' _ _ (h v' w' ?_ h2)
    unfold OwnI
    rw [List.map_append, List.length_append]
    exact h1
/-- append(s, xs...), xs a slice that is not empty. -/
theorem want_append_ints {P : Program} {ops : Array Oper} {rest : List Oper} {o : Oper} {a : Act} {Q : Exit → Act → World → Prop} {w : World} (hw : Region.wanted o (yielded ops a.tmps) = true) (s x : Operand) (t : TypeId)
    (ho : o.op = .call { callee := .builtin .append, args := #[s, x], argTypes := #[t, t] }) (B E : Nat) (ht : P.underlying t = some (.slice E))
    (hinfo : (P.info? E).map (fun i => (i.zero, i.size, i.bytes)) = some (some (.int .i64 0), 1, 8))
    (v : Value) (l : List Int) (hs : a.eval s = v) (hown : OwnI w B E v l) (ax : Option Addr) (cx : Nat) (r : List Int) (hx : a.eval x = .slice ax r.length cx) (hi : IntsAt w ax r) (hr : 0 < r.length)
    (hlen : l.length + r.length ≤ 1099511627776) (hB : B ≤ w.heap.size)
    (h : ∀ v' w', OwnI w' B E v' (l ++ r) → w.grownBy w' v.ownBlock → wpList P ops Q rest (a.put o.dst v') w') : wpList P ops Q (o :: rest) a w := by
  obtain ⟨i, hi', hz0, hz1, hz2⟩ := info_parts hinfo
  obtain ⟨b, off, h1, h2⟩ := hi
  obtain ⟨rfl, hb⟩ := h1 hr
  refine BigFrame.wpList_want hw fun K hK' => ?_
  refine wp_append_own w s x t ho B E i (.int .i64 0) 1 8 ht hi' hz0 hz1 hz2 rfl (by decide) v l.length (l.map (Value.int .i64)) hs hown ⟨b, off, none⟩ r.length cx (r.map (Value.int .i64)) hx (by simp) ?_ ?_ (by unfold maxLen; omega) (by omega) hB ?_
  · intro j u' hj
    have hjl : j < r.length := by have := (List.getElem?_eq_some_iff.1 hj).1; simpa using this
    rw [map_get r j hjl, Option.some.injEq] at hj
    subst hj
    have hadd : (⟨b, off, none⟩ : Addr).add j = ⟨b, off + j, none⟩ := by unfold Addr.add; split <;> simp_all
    rw [hadd]
    exact h2 j hjl
  · intro u' hu
    obtain ⟨n, _, rfl⟩ := List.mem_map.1 hu
    rfl
  · intro v' w' h1 h2 _
    refine hK' _ _ (h v' w' ?_ h2)
    unfold OwnI
    rw [List.map_append, List.length_append]
    exact h1
end Go.Kt
