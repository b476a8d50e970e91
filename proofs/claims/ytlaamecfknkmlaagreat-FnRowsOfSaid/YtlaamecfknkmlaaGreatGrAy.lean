/- Merged texts: contracts and plain lemmas (Ay). -/
import Derived.Test.YtlaamecfknkmlaaGreatGrAx
import Derived.Test.YtlaamecfknkmlaaGreatGrMw
/- Contracts: the automata of two expressions; slices of pairs. -/
namespace Go.Kt
set_option linter.unusedVariables false
open Go.Proofs.YtlaamecfknkmlaaGreat
def flatQ (L : List (Nat × Nat)) : List Value := L.flatMap fun p => [.int .i64 (p.1 : Nat), .int .i64 (p.2 : Nat)]
theorem flatQ_length (L : List (Nat × Nat)) : (flatQ L).length = L.length * 2 := by
  induction L with
  | nil => rfl
  | cons p L ih => simp only [flatQ, List.flatMap_cons, List.length_append, List.length_cons] at ih ⊢; simp only [List.length_nil]; omega
theorem flatQ_get : ∀ (L : List (Nat × Nat)) (i : Nat), i < L.length → (flatQ L)[i * 2]? = some (.int .i64 ((atP L i).1 : Nat)) ∧ (flatQ L)[i * 2 + 1]? = some (.int .i64 ((atP L i).2 : Nat))
  | [], i, h => by simp at h
  | p :: L, 0, h => by simp [flatQ, atP]
  | p :: L, i + 1, h => by
    have := flatQ_get L i (by simpa using h)
    rw [show (i + 1) * 2 = i * 2 + 2 by omega]
    have e : flatQ (p :: L) = .int .i64 (p.1 : Nat) :: .int .i64 (p.2 : Nat) :: flatQ L := by simp [flatQ]
    have e2 : atP (p :: L) (i + 1) = atP L i := by simp [atP]
    rw [e, e2]
    exact this
/-- A slice of pairs of the call's own. -/
def OwnQ (w : World) (B E : Nat) (v : Value) (L : List (Nat × Nat)) : Prop := w.ownsRow B E 2 v L.length (flatQ L)
theorem OwnQ.ext {w w' : World} {B E : Nat} {v : Value} {L : List (Nat × Nat)} (h : OwnQ w B E v L) (e : Ext w w') : OwnQ w' B E v L := own_ext h e
theorem OwnQ.mono {w : World} {B B' E : Nat} {v : Value} {L : List (Nat × Nat)} (h : OwnQ w B E v L) (hB : B' ≤ B) : OwnQ w B' E v L := own_mono h hB
theorem OwnQ.kept {w w' : World} {B E : Nat} {v : Value} {L : List (Nat × Nat)} {row : Option Nat} (h : OwnQ w B E v L) (hg : w.grownBy w' row) (hne : v.ownBlock = none ∨ v.ownBlock ≠ row) : OwnQ w' B E v L := World.ownsRow.kept h hg hne
theorem OwnQ.lt {w : World} {B E : Nat} {v : Value} {L : List (Nat × Nat)} (h : OwnQ w B E v L) : ∀ k, v.ownBlock = some k → B ≤ k ∧ k < w.heap.size := World.ownsRow.lt h
theorem OwnQ.nil (w : World) (B E : Nat) : OwnQ w B E (.slice none 0 0) [] := ⟨rfl, .inl ⟨rfl, rfl⟩⟩
theorem OwnQ.typed {w : World} {B E : Nat} {v : Value} {L : List (Nat × Nat)} (h : OwnQ w B E v L) : ∀ k, v.ownBlock = some k → ∃ cs fz, w.heap[k]? = some (.cells cs E fz) := fun k hk => by
  rcases h.2 with ⟨rfl, _⟩ | ⟨g, cap, cur, rfl, _, hg, _⟩
  · cases hk
  · obtain rfl : g = k := Option.some.inj hk
    exact ⟨cur, (0, 0), hg⟩
theorem OwnQ.shape {w : World} {B E : Nat} {v : Value} {L : List (Nat × Nat)} (h : OwnQ w B E v L) : ∃ a c, v = .slice a L.length c := by
  rcases h.2 with ⟨rfl, h0⟩ | ⟨g, cap, cur, rfl, _⟩
  · exact ⟨none, 0, by rw [h0]⟩
  · exact ⟨_, cap, rfl⟩
theorem OwnQ.row {w : World} {B E n cap : Nat} {a : Option Addr} {L : List (Nat × Nat)} (h : OwnQ w B E (.slice a n cap) L) (hn : 0 < L.length) :
    ∃ g, a = some ⟨g, 0, none⟩ ∧ n = L.length ∧ B ≤ g ∧ g < w.heap.size ∧ ∀ i, i < L.length → w.cell? ⟨g, i * 2, none⟩ = some (.int .i64 ((atP L i).1 : Nat)) ∧ w.cell? ⟨g, i * 2 + 1, none⟩ = some (.int .i64 ((atP L i).2 : Nat)) := by
  have h' := h
  rcases h'.2 with ⟨_, h0⟩ | ⟨g, cap', cur, hv, hB, hg, _⟩
  · omega
  · have hv' : a = some ⟨g, 0, none⟩ ∧ n = L.length ∧ cap = cap' := by simpa using hv
    obtain ⟨rfl, rfl, rfl⟩ := hv'
    refine ⟨g, rfl, rfl, hB, (Array.getElem?_eq_some_iff.1 hg).1, fun i hi => ⟨?_, ?_⟩⟩
    · rw [World.ownsRow.cellAt h (i * 2) (by omega)]; exact (flatQ_get L i hi).1
    · rw [World.ownsRow.cellAt h (i * 2 + 1) (by omega)]; exact (flatQ_get L i hi).2
theorem OwnQ.grown {w0 w w' : World} {E : Nat} {v : Value} {L : List (Nat × Nat)} (h : OwnQ w w0.heap.size E v L) (hx : Ext w0 w) (hg : w.grownBy w' v.ownBlock) : Ext w0 w' :=
  Ext.row hx hg fun k hk => (h.lt k hk).1
theorem OwnQ.lit (w : World) (B E : Nat) (p : Nat × Nat) (hB : B ≤ w.heap.size) : OwnQ (w.alloc (.cells #[.int .i64 (p.1 : Nat), .int .i64 (p.2 : Nat)] E)) B E (.slice (some ⟨w.heap.size, 0, none⟩) 1 1) [p] :=
  World.ownsRow_lit (base := B) (e := E) (size := 2) w #[.int .i64 (p.1 : Nat), .int .i64 (p.2 : Nat)] 1 hB (by unfold maxLen; omega) rfl
theorem flatQ_app (L M : List (Nat × Nat)) : flatQ (L ++ M) = flatQ L ++ flatQ M := by simp [flatQ]
/-- append of one pair. -/
theorem want_append_q {P : Program} {ops : Array Oper} {rest : List Oper} {o : Oper} {a : Act} {Q : Exit → Act → World → Prop} {w : World} (hw : Region.wanted o (yielded ops a.tmps) = true) (s x : Operand) (t : TypeId)
    (ho : o.op = .call { callee := .builtin .append, args := #[s, x], argTypes := #[t, t] }) (B E : Nat) (ht : P.underlying t = some (.slice E))
    (hinfo : (P.info? E).map (fun i => (i.zero, i.size, i.bytes)) = some (some (.agg #[.int .i64 0, .int .i64 0]), 2, 16))
    (v : Value) (L : List (Nat × Nat)) (hs : a.eval s = v) (hown : OwnQ w B E v L) (g : Nat) (p : Nat × Nat) (hx : a.eval x = .slice (some ⟨g, 0, none⟩) 1 1)
    (hc0 : w.cell? ⟨g, 0, none⟩ = some (.int .i64 (p.1 : Nat))) (hc1 : w.cell? ⟨g, 1, none⟩ = some (.int .i64 (p.2 : Nat)))
    (hlen : L.length + 1 ≤ 1099511627776) (hB : B ≤ w.heap.size)
    (h : ∀ v' w', OwnQ w' B E v' (L ++ [p]) → w.grownBy w' v.ownBlock → wpList P ops Q rest (a.put o.dst v') w') : wpList P ops Q (o :: rest) a w := by
  obtain ⟨i, hi, hz0, hz1, hz2⟩ := info_parts hinfo
  refine BigFrame.wpList_want hw fun K hK' => ?_
  refine wp_append_own w s x t ho B E i _ 2 16 ht hi hz0 hz1 hz2 rfl (by decide) v L.length (flatQ L) hs hown ⟨g, 0, none⟩ 1 1 [.int .i64 (p.1 : Nat), .int .i64 (p.2 : Nat)] hx rfl ?_ ?_ (by unfold maxLen; omega) (by omega) hB ?_
  · intro j u' hj
    match j, hj with
    | 0, hj => simp at hj; subst hj; simpa [Addr.add] using hc0
    | 1, hj => simp at hj; subst hj; simpa [Addr.add] using hc1
    | j + 2, hj => simp at hj
  · intro u' hu
    simp at hu
    rcases hu with rfl | rfl <;> rfl
  · intro v' w' h1 h2 _
    refine hK' _ _ (h v' w' ?_ h2)
    unfold OwnQ
    rw [flatQ_app, List.length_append]
    exact h1
end Go.Kt
namespace Go.Proofs.YtlaamecfknkmlaaGreat
set_option linter.unusedVariables false
open Go.RowKit Go.Kt
theorem infoPair : (Tryz.prog.info? 71).map (fun i => (i.zero, i.size, i.bytes)) = some (some (.agg #[.int .i64 0, .int .i64 0]), 2, 16) := by kernel_rfl
/-- m[p] = true. -/
theorem wpList_put {ops : Array Oper} {rest : List Oper} {o : Oper} {a : Act} {Q : Exit → Act → World → Prop} {w : World} (hg : o.guard = none) (m x v : Operand)
    (hop : o.op = Op.mapUpdate 68 m x v) (b : Nat) (S : List (Nat × Nat)) (p : Nat × Nat) (hm : a.eval m = .map (some b)) (hx : a.eval x = pairV p) (hv : a.eval v = .bool true) (hown : SetP w b S)
    (hK : ∀ w', SetP w' b (if p ∈ S then S else S ++ [p]) → w.grownBy w' (some b) → w'.heap.size = w.heap.size → wpList Tryz.prog ops Q rest (a.put o.dst undef) w') : wpList Tryz.prog ops Q (o :: rest) a w := by
  refine wpList_plain hg fun K' hK' => ?_
  obtain ⟨w', hrun, r1, r2, r3⟩ := hown.put_run p
  unfold Oper.wp
  simp [execOp, hop, hm, hx, hv, hrun, Result.andThen]
  exact hK' _ _ (hK w' r1 r2 r3)
theorem wpList_ins {ops : Array Oper} {rest : List Oper} {o : Oper} {a : Act} {Q : Exit → Act → World → Prop} {w : World} (hg : o.guard = none) (m x v : Operand)
    (hop : o.op = Op.insert 68 m x v) (b : Nat) (S : List (Nat × Nat)) (p : Nat × Nat) (hm : a.eval m = .map (some b)) (hx : a.eval x = pairV p) (hv : a.eval v = .bool true) (hown : SetP w b S)
    (hK : ∀ w', SetP w' b (if p ∈ S then S else S ++ [p]) → w.grownBy w' (some b) → w'.heap.size = w.heap.size → wpList Tryz.prog ops Q rest (a.put o.dst undef) w') : wpList Tryz.prog ops Q (o :: rest) a w := by
  refine wpList_plain hg fun K' hK' => ?_
  obtain ⟨w', hrun, r1, r2, r3⟩ := hown.put_run p
  unfold Oper.wp
  simp [execOp, hop, hm, hx, hv, hrun, Result.andThen]
  exact hK' _ _ (hK w' r1 r2 r3)
/-- Both automata, as they stand. -/
def TogAt (w : World) (e f : List Int) (v : Value) : Prop := ∃ a1 c1 a2 c2 b1 d1 b2 d2, v = togV a1 (auE e).length c1 a2 (auN e).length c2 b1 (auE f).length d1 b2 (auN f).length d2 ∧ IntsAt w a1 (auE e) ∧ RowsAt w a2 (auN e) ∧ IntsAt w b1 (auE f) ∧ RowsAt w b2 (auN f)
theorem TogAt.ext {w w' : World} {e f : List Int} {v : Value} (h : TogAt w e f v) (x : Ext w w') : TogAt w' e f v := by
  obtain ⟨a1, c1, a2, c2, b1, d1, b2, d2, h0, h1, h2, h3, h4⟩ := h
  exact ⟨a1, c1, a2, c2, b1, d1, b2, d2, h0, h1.ext x, h2.ext x, h3.ext x, h4.ext x⟩
def RetAs (w : World) (e f : List Int) (r : Ending) (w' : World) : Prop := ∃ v, r = .returned (.tuple #[v, .bool (auB e && auB f)]) ∧ TogAt w' e f v ∧ Ext w w'
set_option maxRecDepth 100000 in
set_option maxHeartbeats 1000000 in
theorem autosOf_c (a b : Option Addr) (c d : Nat) (e f : List Int) (w : World) (he : IntsAt w a e) (hf : IntsAt w b f) (hle : e.length ≤ 4194304) (hlf : f.length ≤ 4194304) :
    Calls Tryz.prog 55 #[.slice a e.length c, .slice b f.length d] w (RetAs w e f) := by
  have CE : Hid (∀ w', Ext w w' → Calls Tryz.prog 115 #[.slice a e.length c] w' (RetAu w' e)) := fun w' x => autoOf_c a c e w' (he.ext x) hle
  have CF : Hid (∀ w', Ext w w' → Calls Tryz.prog 115 #[.slice b f.length d] w' (RetAu w' f)) := fun w' x => autoOf_c b d f w' (hf.ext x) hlf
  have h1 := auE_iff e
  have h2 := auE_iff f
  clear he hf
  generalize e.length = ne at *
  generalize f.length = nf at *
  go_enter Tryz.func55, Tryz.ntmps55
  go_wp2_with fail
  refine (CE.out _ (by (repeat (first | exact Ext.refl _ | assumption | refine Ext.alloc ?_ _ | refine Ext.drewN ?_ _ | refine Ext.drew ?_)))).mono ?_
  rintro r w1 ⟨a1, c1, a2, c2, rfl, i1, x1⟩
  have X1 := Lib.hid (Ext.trans (show Ext w _ by (repeat (first | exact Ext.refl _ | assumption | refine Ext.alloc ?_ _ | refine Ext.drewN ?_ _ | refine Ext.drew ?_))) x1)
  have y1 := x1
  have hz1 := x1.size
  simp at hz1
  have I1 := Lib.hid i1
  clear i1
  go_wp2_with fail
  refine (CF.out _ X1.out).mono ?_
  rintro r w2 ⟨b1, d1, b2, d2, rfl, i3, x2⟩
  have y2 := y1.trans x2
  have q0 : w2.cell? ⟨w.heap.size, 0, none⟩ = some (.slice none 0 0) := y2.cell' (by simp [go_sem]) (by simp)
  have q1 : w2.cell? ⟨w.heap.size, 1, none⟩ = some (.slice none 0 0) := y2.cell' (by simp [go_sem]) (by simp)
  have q2 : w2.cell? ⟨w.heap.size, 2, none⟩ = some (.slice none 0 0) := y2.cell' (by simp [go_sem]) (by simp)
  have q3 : w2.cell? ⟨w.heap.size, 3, none⟩ = some (.slice none 0 0) := y2.cell' (by simp [go_sem]) (by simp)
  have f0 : w2.frozen? ⟨w.heap.size, 0, none⟩ = false := (y2.cells.2 _ _ (by simp)).trans (by simp [go_sem])
  have f1 : w2.frozen? ⟨w.heap.size, 1, none⟩ = false := (y2.cells.2 _ _ (by simp)).trans (by simp [go_sem])
  have f2 : w2.frozen? ⟨w.heap.size, 2, none⟩ = false := (y2.cells.2 _ _ (by simp)).trans (by simp [go_sem])
  have f3 : w2.frozen? ⟨w.heap.size, 3, none⟩ = false := (y2.cells.2 _ _ (by simp)).trans (by simp [go_sem])
  have hzw : w.heap.size < w2.heap.size := by have := x2.size; omega
  have hzn : w.heap.size ≠ w2.heap.size := by omega
  have X2 := Lib.hid (X1.out.trans x2)
  have qh : ∃ cs fz, w2.heap[w.heap.size]? = some (.cells cs 65 fz) := ⟨_, _, (y2.block _ (by simp)).trans (heap_alloc_new w _)⟩
  have R1 : AuR w2 (w.heap.size + 1) e a1 c1 a2 c2 := (I1.out.mono (by simp)).ext x2
  have R2 : AuR w2 (w.heap.size + 1) f b1 d1 b2 d2 := i3.mono (by omega)
  have T2 : Hid (∀ w' u0 u1 u2 u3, Ext w2 w' → TogAt ((((w'.setCell ⟨w.heap.size, 0, none⟩ u0).setCell ⟨w.heap.size, 1, none⟩ u1).setCell ⟨w.heap.size, 2, none⟩ u2).setCell ⟨w.heap.size, 3, none⟩ u3) e f (togV a1 (auE e).length c1 a2 (auN e).length c2 b1 (auE f).length d1 b2 (auN f).length d2)) := fun w' u0 u1 u2 u3 x => by
    have hty : (3 : Nat) ≠ 65 := by decide
    have k0 : ∃ cs fz, w'.heap[w.heap.size]? = some (.cells cs 65 fz) := by
      obtain ⟨cs, fz, h⟩ := qh
      exact ⟨cs, fz, (x.block _ (by omega)).trans h⟩
    have k1 := typed_put k0 0 u0
    have k2 := typed_put k1 1 u1
    have k3 := typed_put k2 2 u2
    have hlt : w.heap.size < w.heap.size + 1 := Nat.lt_succ_self _
    have S1 := ((((R1.ext x).put hlt hty k0 0 u0).put hlt hty k1 1 u1).put hlt hty k2 2 u2).put hlt hty k3 3 u3
    have S2 := ((((R2.ext x).put hlt hty k0 0 u0).put hlt hty k1 1 u1).put hlt hty k2 2 u2).put hlt hty k3 3 u3
    exact ⟨a1, c1, a2, c2, b1, d1, b2, d2, rfl, S1.1.ints, S1.2.rows, S2.1.ints, S2.2.rows⟩
  clear x1 x2 y1 y2 i3 CE CF R1 R2 qh
  have HF0 : Hid (∀ v w', TogAt w' e f v → Ext w w' → RetAs w e f (.returned (.tuple #[v, .bool (auB e && auB f)])) w') := fun v w' h1 h2 => ⟨v, rfl, h1, h2⟩
  generalize hB1 : auB e = B1 at *
  generalize hB2 : auB f = B2 at *
  generalize (auN e).length = n2 at *
  generalize (auN f).length = n4 at *
  generalize hn1 : (auE e).length = n1 at *
  generalize hn3 : (auE f).length = n3 at *
  clear hB1 hB2 hn1 hn3 I1
  cases B1
  · obtain rfl : n1 = 0 := by have := h1.2; simp at h1; omega
    clear h1 h2
    go_wp2
    (first | go_region | fail)
    all_goals
      have T3 := T2.out w2 (.slice a1 0 c1) (.slice a2 n2 c2) (.slice b1 n3 d1) (.slice b2 n4 d2) (Ext.refl _)
      have X3 := (((X2.out.setCell (p := ⟨w.heap.size, 0, none⟩) (Nat.le_refl _) (.slice a1 0 c1)).setCell (p := ⟨w.heap.size, 1, none⟩) (Nat.le_refl _) (.slice a2 n2 c2)).setCell (p := ⟨w.heap.size, 2, none⟩) (Nat.le_refl _) (.slice b1 n3 d1)).setCell (p := ⟨w.heap.size, 3, none⟩) (Nat.le_refl _) (.slice b2 n4 d2)
      go_wp2
      refine bodyPost_ret (v := .tuple #[togV a1 0 c1 a2 n2 c2 b1 n3 d1 b2 n4 d2, .bool false]) (by simp [results, Tryz.results55, go_sem, q0, q1, q2, q3, hzw]) rfl ?_
      exact HF0.out _ _ (T3.ext ((Ext.refl _).alloc _).drew) (X3.trans ((Ext.refl _).alloc _).drew)
  · have p1 : 0 < n1 := h1.1 rfl
    have p1' : (0 : Int) < (n1 : Int) := by omega
    clear h1
    cases B2
    · obtain rfl : n3 = 0 := by have := h2.2; simp at h2; omega
      clear h2
      go_wp2
      (first | go_region | fail)
      all_goals
        have T3 := T2.out w2 (.slice a1 n1 c1) (.slice a2 n2 c2) (.slice b1 0 d1) (.slice b2 n4 d2) (Ext.refl _)
        have X3 := (((X2.out.setCell (p := ⟨w.heap.size, 0, none⟩) (Nat.le_refl _) (.slice a1 n1 c1)).setCell (p := ⟨w.heap.size, 1, none⟩) (Nat.le_refl _) (.slice a2 n2 c2)).setCell (p := ⟨w.heap.size, 2, none⟩) (Nat.le_refl _) (.slice b1 0 d1)).setCell (p := ⟨w.heap.size, 3, none⟩) (Nat.le_refl _) (.slice b2 n4 d2)
        go_wp2
        refine bodyPost_ret (v := .tuple #[togV a1 n1 c1 a2 n2 c2 b1 0 d1 b2 n4 d2, .bool false]) (by simp [results, Tryz.results55, go_sem, q0, q1, q2, q3, hzw]) rfl ?_
        exact HF0.out _ _ (T3.ext ((Ext.refl _).alloc _).drew) (X3.trans ((Ext.refl _).alloc _).drew)
    · have p3 : 0 < n3 := h2.1 rfl
      have p3' : (0 : Int) < (n3 : Int) := by omega
      clear h2
      go_wp2
      (first | go_region | fail)
      all_goals
        have T3 := T2.out w2 (.slice a1 n1 c1) (.slice a2 n2 c2) (.slice b1 n3 d1) (.slice b2 n4 d2) (Ext.refl _)
        have X3 := (((X2.out.setCell (p := ⟨w.heap.size, 0, none⟩) (Nat.le_refl _) (.slice a1 n1 c1)).setCell (p := ⟨w.heap.size, 1, none⟩) (Nat.le_refl _) (.slice a2 n2 c2)).setCell (p := ⟨w.heap.size, 2, none⟩) (Nat.le_refl _) (.slice b1 n3 d1)).setCell (p := ⟨w.heap.size, 3, none⟩) (Nat.le_refl _) (.slice b2 n4 d2)
        go_wp2
        refine bodyPost_ret (v := .tuple #[togV a1 n1 c1 a2 n2 c2 b1 n3 d1 b2 n4 d2, .bool true]) (by simp [results, Tryz.results55, go_sem, q0, q1, q2, q3, hzw]) rfl ?_
        exact HF0.out _ _ (T3.ext ((Ext.refl _).alloc _).drew) (X3.trans ((Ext.refl _).alloc _).drew)
end Go.Proofs.YtlaamecfknkmlaaGreat
