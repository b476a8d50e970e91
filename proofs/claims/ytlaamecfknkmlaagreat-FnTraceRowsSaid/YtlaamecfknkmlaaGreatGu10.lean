/- Merged texts: contracts and plain lemmas (Any). -/
import Derived.Test.YtlaamecfknkmlaaGreatGu5
/- Plain law: append of a slice of the call's own with any slice behind it, an empty one too. No program in sight. -/
namespace Go.Kt
set_option linter.unusedVariables false
open Go.RowKit

theorem run_append_none0 {P : Program} {w : World} (base : Nat) (t ty e : TypeId) (i : TypeInfo) (size : Nat) (ht : P.underlying t = some (.slice e)) (hi : P.info? e = some i)
    (v : Value) (n : Nat) (xs : List Value) (hown : w.ownsRow base e size v n xs) (ax : Option Addr) (c : Nat) : (Builtin.append_ #[t, t] ty #[v, .slice ax 0 c]).run P w = .ok v w := by
  rcases hown.2 with ⟨rfl, rfl⟩ | ⟨g, cap, cur, rfl, _, _, hnc, _⟩
  · cases ax <;> simp [Builtin.append_, run_underlying ht, sizeOf, typeInfo, hi, Builtin.lenOf, Builtin.firstCells, loadCells, loadCellsFrom]
  · cases ax <;> simp [Builtin.append_, run_underlying ht, sizeOf, typeInfo, hi, Builtin.lenOf, Builtin.firstCells, hnc, storeCells, loadCells, loadCellsFrom]
/-- append(s, xs...): what follows, at a law on one operation. -/
theorem wp_append_of {P : Program} {o : Oper} {a : Act} {K : Act → World → Prop} {Q : Exit → Act → World → Prop} {w : World} (s x : Operand) (t : TypeId)
    (ho : o.op = .call { callee := .builtin .append, args := #[s, x], argTypes := #[t, t] }) (B E size by' : Nat) (z : Value) (ht : P.underlying t = some (.slice E))
    (hinfo : (P.info? E).map (fun i => (i.zero, i.size, i.bytes)) = some (some z, size, by')) (hz : z.cells.size = size) (hsz : 0 < size) (hby : by' ≤ 100)
    (v : Value) (n : Nat) (xs : List Value) (hs : a.eval s = v) (hown : w.ownsRow B E size v n xs) (ax : Option Addr) (m cx : Nat) (news : List Value) (hx : a.eval x = .slice ax m cx) (hl : news.length = m * size)
    (hi : 0 < m → ∃ b off, ax = some ⟨b, off, none⟩ ∧ ∀ j u, news[j]? = some u → w.cell? ⟨b, off + j, none⟩ = some u) (h1 : ∀ u ∈ news, u.oneCell' = true)
    (hlen : n + m ≤ 1099511627776) (hB : B ≤ w.heap.size)
    (h : ∀ v' w', w'.ownsRow B E size v' (n + m) (xs ++ news) → w.grownBy w' v.ownBlock → K (a.put o.dst v') w') : o.wp P a w K Q := by
  obtain ⟨i, hi', hz0, hz1, hz2⟩ := info_parts hinfo
  by_cases hm : 0 < m
  · obtain ⟨b, off, rfl, hc⟩ := hi hm
    refine wp_append_own w s x t ho B E i z size by' ht hi' hz0 hz1 hz2 hz hsz v n xs hs hown ⟨b, off, none⟩ m cx news hx hl ?_ h1 (by unfold maxLen; omega) (Nat.le_trans (Nat.mul_le_mul hlen hby) (by decide)) hB (fun v' w' h2 h3 _ => h v' w' h2 h3)
    intro j u hj
    have hadd : (⟨b, off, none⟩ : Addr).add j = ⟨b, off + j, none⟩ := by unfold Addr.add; split <;> simp_all
    rw [hadd]
    exact hc j u hj
  · obtain rfl : m = 0 := by omega
    have hn : news = [] := List.eq_nil_of_length_eq_zero (by simpa using hl)
    subst hn
    have hrun := run_append_none0 (P := P) (w := w) B t o.type E i size ht hi' v n xs hown ax cx
    have hk := h v w (by simpa using hown) ((Ext.refl w).grown _)
    unfold Oper.wp execOp
    simp only [ho, resolve, invoke, builtin, Sem.run_bind, Sem.run_pure, Result.andThen_ok, List.map_toArray, List.map_cons, List.map_nil, hs, hx, hrun]
    exact hk
theorem flat_one (R : List Int) : ∀ u ∈ R.map (Value.int .i64), u.oneCell' = true := by
  intro u hu
  obtain ⟨q, _, rfl⟩ := List.mem_map.1 hu
  rfl
theorem flat_src {w : World} {ax : Option Addr} {m : Nat} {R : List Int} (h : FlatAt w ax m R) (hm : 0 < m) : ∃ b off, ax = some ⟨b, off, none⟩ ∧ ∀ j u, (R.map (Value.int .i64))[j]? = some u → w.cell? ⟨b, off + j, none⟩ = some u := by
  obtain ⟨hl, b, off, h1, h2⟩ := h
  refine ⟨b, off, (h1 hm).1, fun j u hj => ?_⟩
  have hjl : j < R.length := by have := (List.getElem?_eq_some_iff.1 hj).1; simpa using this
  rw [map_get R j hjl, Option.some.injEq] at hj
  subst hj
  exact h2 j (by omega)
theorem ints_src {w : World} {ax : Option Addr} {R : List Int} (h : IntsAt w ax R) (hm : 0 < R.length) : ∃ b off, ax = some ⟨b, off, none⟩ ∧ ∀ j u, (R.map (Value.int .i64))[j]? = some u → w.cell? ⟨b, off + j, none⟩ = some u := by
  obtain ⟨b, off, h1, h2⟩ := h
  refine ⟨b, off, (h1 hm).1, fun j u hj => ?_⟩
  have hjl : j < R.length := by have := (List.getElem?_eq_some_iff.1 hj).1; simpa using this
  rw [map_get R j hjl, Option.some.injEq] at hj
  subst hj
  exact h2 j hjl
/-- append of a slice of structs, be it empty or not. -/
theorem any_append_inss {P : Program} {ops : Array Oper} {rest : List Oper} {o : Oper} {a : Act} {Q : Exit → Act → World → Prop} {w : World} (hw : Region.wanted o (yielded ops a.tmps) = true) (s x : Operand) (t : TypeId)
    (ho : o.op = .call { callee := .builtin .append, args := #[s, x], argTypes := #[t, t] }) (B E : Nat) (ht : P.underlying t = some (.slice E))
    (hinfo : (P.info? E).map (fun i => (i.zero, i.size, i.bytes)) = some (some (.agg #[.int .i64 0, .int .i64 0, .int .i64 0]), 3, 24))
    (v : Value) (n : Nat) (L : List Int) (hs : a.eval s = v) (hown : OwnF w B E v n L) (ax : Option Addr) (m cx : Nat) (R : List Int) (hx : a.eval x = .slice ax m cx) (hi : FlatAt w ax m R)
    (hlen : n + m ≤ 1099511627776) (hB : B ≤ w.heap.size)
    (h : ∀ v' w', OwnF w' B E v' (n + m) (L ++ R) → w.grownBy w' v.ownBlock → wpList P ops Q rest (a.put o.dst v') w') : wpList P ops Q (o :: rest) a w :=
  BigFrame.wpList_want hw fun K hK' => wp_append_of s x t ho B E 3 24 _ ht hinfo rfl (by decide) (by decide) v n _ hs hown ax m cx (R.map (Value.int .i64)) hx (by rw [List.length_map]; exact hi.1) (flat_src hi) (flat_one R) hlen hB
    fun v' w' h1 h2 => hK' _ _ (h v' w' (by unfold OwnF; rw [List.map_append]; exact h1) h2)
theorem astep_append_inss {P : Program} {ops : Array Oper} {o : Oper} {a : Act} {K : Act → World → Prop} {Q : Exit → Act → World → Prop} {X : Prop} {w : World} (hgd : o.guard = none) (s x : Operand) (t : TypeId)
    (ho : o.op = .call { callee := .builtin .append, args := #[s, x], argTypes := #[t, t] }) (B E : Nat) (ht : P.underlying t = some (.slice E))
    (hinfo : (P.info? E).map (fun i => (i.zero, i.size, i.bytes)) = some (some (.agg #[.int .i64 0, .int .i64 0, .int .i64 0]), 3, 24))
    (v : Value) (n : Nat) (L : List Int) (hs : a.eval s = v) (hown : OwnF w B E v n L) (ax : Option Addr) (m cx : Nat) (R : List Int) (hx : a.eval x = .slice ax m cx) (hi : FlatAt w ax m R)
    (hlen : n + m ≤ 1099511627776) (hB : B ≤ w.heap.size)
    (h : ∀ v' w', OwnF w' B E v' (n + m) (L ++ R) → w.grownBy w' v.ownBlock → K (a.put o.dst v') w') : if Region.wanted o (yielded ops a.tmps) = true then Oper.wp P o a w K Q else X := by
  have hw : Region.wanted o (yielded ops a.tmps) = true := by simp [Region.wanted, hgd]
  rw [if_pos hw]
  exact wp_append_of s x t ho B E 3 24 _ ht hinfo rfl (by decide) (by decide) v n _ hs hown ax m cx (R.map (Value.int .i64)) hx (by rw [List.length_map]; exact hi.1) (flat_src hi) (flat_one R) hlen hB
    fun v' w' h1 h2 => h v' w' (by unfold OwnF; rw [List.map_append]; exact h1) h2
/-- append of a slice of ints, be it empty or not. -/
theorem any_append_ints {P : Program} {ops : Array Oper} {rest : List Oper} {o : Oper} {a : Act} {Q : Exit → Act → World → Prop} {w : World} (hw : Region.wanted o (yielded ops a.tmps) = true) (s x : Operand) (t : TypeId)
    (ho : o.op = .call { callee := .builtin .append, args := #[s, x], argTypes := #[t, t] }) (B E : Nat) (ht : P.underlying t = some (.slice E))
    (hinfo : (P.info? E).map (fun i => (i.zero, i.size, i.bytes)) = some (some (.int .i64 0), 1, 8))
    (v : Value) (l : List Int) (hs : a.eval s = v) (hown : OwnI w B E v l) (ax : Option Addr) (cx : Nat) (r : List Int) (hx : a.eval x = .slice ax r.length cx) (hi : IntsAt w ax r)
    (hlen : l.length + r.length ≤ 1099511627776) (hB : B ≤ w.heap.size)
    (h : ∀ v' w', OwnI w' B E v' (l ++ r) → w.grownBy w' v.ownBlock → wpList P ops Q rest (a.put o.dst v') w') : wpList P ops Q (o :: rest) a w :=
  BigFrame.wpList_want hw fun K hK' => wp_append_of s x t ho B E 1 8 _ ht hinfo rfl (by decide) (by decide) v l.length _ hs hown ax r.length cx (r.map (Value.int .i64)) hx (by simp) (ints_src hi) (flat_one r) hlen hB
    fun v' w' h1 h2 => hK' _ _ (h v' w' (by unfold OwnI; rw [List.map_append, List.length_append]; exact h1) h2)
theorem astep_append_ints {P : Program} {ops : Array Oper} {o : Oper} {a : Act} {K : Act → World → Prop} {Q : Exit → Act → World → Prop} {X : Prop} {w : World} (hgd : o.guard = none) (s x : Operand) (t : TypeId)
    (ho : o.op = .call { callee := .builtin .append, args := #[s, x], argTypes := #[t, t] }) (B E : Nat) (ht : P.underlying t = some (.slice E))
    (hinfo : (P.info? E).map (fun i => (i.zero, i.size, i.bytes)) = some (some (.int .i64 0), 1, 8))
    (v : Value) (l : List Int) (hs : a.eval s = v) (hown : OwnI w B E v l) (ax : Option Addr) (cx : Nat) (r : List Int) (hx : a.eval x = .slice ax r.length cx) (hi : IntsAt w ax r)
    (hlen : l.length + r.length ≤ 1099511627776) (hB : B ≤ w.heap.size)
    (h : ∀ v' w', OwnI w' B E v' (l ++ r) → w.grownBy w' v.ownBlock → K (a.put o.dst v') w') : if Region.wanted o (yielded ops a.tmps) = true then Oper.wp P o a w K Q else X := by
  have hw : Region.wanted o (yielded ops a.tmps) = true := by simp [Region.wanted, hgd]
  rw [if_pos hw]
  exact wp_append_of s x t ho B E 1 8 _ ht hinfo rfl (by decide) (by decide) v l.length _ hs hown ax r.length cx (r.map (Value.int .i64)) hx (by simp) (ints_src hi) (flat_one r) hlen hB
    fun v' w' h1 h2 => h v' w' (by unfold OwnI; rw [List.map_append, List.length_append]; exact h1) h2
theorem OwnF.lit (w : World) (B E : Nat) (x y z : Int) (hB : B ≤ w.heap.size) : OwnF (w.alloc (.cells #[.int .i64 x, .int .i64 y, .int .i64 z] E)) B E (.slice (some ⟨w.heap.size, 0, none⟩) 1 1) 1 [x, y, z] :=
  World.ownsRow_lit (base := B) (e := E) (size := 3) w #[.int .i64 x, .int .i64 y, .int .i64 z] 1 hB (by unfold maxLen; omega) rfl
theorem OwnI.lit1 (w : World) (B E : Nat) (x : Int) (hB : B ≤ w.heap.size) : OwnI (w.alloc (.cells #[.int .i64 x] E)) B E (.slice (some ⟨w.heap.size, 0, none⟩) 1 1) [x] :=
  World.ownsRow_lit (base := B) (e := E) (size := 1) w #[.int .i64 x] 1 hB (by unfold maxLen; omega) rfl
theorem OwnF.shape' {w : World} {B E n : Nat} {v : Value} {L : List Int} (h : OwnF w B E v n L) : ∃ a cap, v = .slice a n cap := by
  obtain ⟨a, cap, h, _⟩ := h.shape
  exact ⟨a, cap, h⟩
theorem IntsAt.left {w : World} {b off : Nat} {xs ys : List Int} (h : IntsAt w (some ⟨b, off, none⟩) (xs ++ ys)) : IntsAt w (some ⟨b, off, none⟩) xs := by
  obtain ⟨b', off', h1, h2⟩ := h
  by_cases hx : 0 < xs.length
  · obtain ⟨he, hb⟩ := h1 (by simp; omega)
    obtain ⟨rfl, rfl⟩ : b = b' ∧ off = off' := by simpa using he
    refine ⟨b, off, fun _ => ⟨rfl, hb⟩, fun i hi => ?_⟩
    rw [h2 i (by simp; omega)]
    unfold nth; rw [List.getD_eq_getElem?_getD, List.getD_eq_getElem?_getD, List.getElem?_append_left hi]
  · exact ⟨0, 0, fun h => absurd h hx, fun i hi => absurd hi (by omega)⟩
theorem IntsAt.right {w : World} {b off : Nat} {xs ys : List Int} (h : IntsAt w (some ⟨b, off, none⟩) (xs ++ ys)) : IntsAt w (some ⟨b, off + xs.length, none⟩) ys := by
  obtain ⟨b', off', h1, h2⟩ := h
  by_cases hy : 0 < ys.length
  · obtain ⟨he, hb⟩ := h1 (by simp; omega)
    obtain ⟨rfl, rfl⟩ : b = b' ∧ off = off' := by simpa using he
    refine ⟨b, off + xs.length, fun _ => ⟨rfl, hb⟩, fun i hi => ?_⟩
    rw [Nat.add_assoc, h2 (xs.length + i) (by simp; omega)]
    unfold nth; rw [List.getD_eq_getElem?_getD, List.getD_eq_getElem?_getD, List.getElem?_append_right (by omega), Nat.add_sub_cancel_left]
  · exact ⟨0, 0, fun h => absurd h hy, fun i hi => absurd hi (by omega)⟩
theorem IntsAt.at_ {w : World} {b off : Nat} {xs ys : List Int} {s : Int} (h : IntsAt w (some ⟨b, off, none⟩) (xs ++ s :: ys)) : w.cell? ⟨b, off + xs.length, none⟩ = some (.int .i64 s) ∧ b < w.heap.size := by
  have h2 := IntsAt.right h
  obtain ⟨b', off', h1, h2⟩ := h2
  obtain ⟨he, hb⟩ := h1 (by simp)
  obtain ⟨rfl, rfl⟩ : b = b' ∧ off + xs.length = off' := by simpa using he
  exact ⟨by have := h2 0 (by simp); simpa [nth] using this, hb⟩
theorem Ext.row {w0 w w' : World} {row : Option Nat} (hx : Ext w0 w) (hg : w.grownBy w' row) (hr : ∀ k, row = some k → w0.heap.size ≤ k) : Ext w0 w' := Below.grown hx hg hx.size hr
theorem Ext.rowOf {w0 w w' : World} {g n c : Nat} (hx : Ext w0 w) (hg : w.grownBy w' (Value.slice (some ⟨g, 0, none⟩) n c).ownBlock) (hr : w0.heap.size ≤ g) : Ext w0 w' :=
  Ext.row hx hg fun k hk => by simp [Value.ownBlock] at hk; omega
theorem ints_nth_self {w : World} {a : Option Addr} {l l' : List Int} (h : IntsAt w a l) (e : l = l') : IntsAt w a l' := e ▸ h
end Go.Kt
