/- Contracts: the code of a program: the program's own. -/
import Derived.Test.YtnhdachenckceaaPb
import Derived.Test.YtnhdachenckceaaPj
namespace Go.Proofs.Ytnhdachenckceaa
set_option linter.unusedVariables false
open Go.RowKit Go.Kt

/-- The type, the value and the function of a program's method. -/
def ptT : Pt → TypeId
  | .one _ => 73
  | .seq _ _ => 75
  | .ifs _ _ _ => 77
  | .loop _ _ => 79
def ptV : Pt → Value
  | .one w => .agg #[.int .i64 w]
  | .seq a b => .agg #[pv a, pv b]
  | .ifs t a b => .agg #[.int .i64 t, pv a, pv b]
  | .loop t a => .agg #[.int .i64 t, pv a]
def codeF : Pt → FuncId
  | .one _ => 95
  | .seq _ _ => 98
  | .ifs _ _ _ => 106
  | .loop _ _ => 113
theorem pv_eq (t : Pt) : pv t = .iface (ptT t) (ptV t) := by cases t <;> rfl
theorem hiProgram2 : Try.prog.underlying 56 = some (.interface (Try.prog.methodsAt 56)) := by rfl
theorem pEqlHeld (u : TypeId) (x : Value) (w : World) : (binOp .eql 56 (.iface u x) .nilIface).run Try.prog w = .ok (.bool false) w := run_eql_held_nil (h := hiProgram2) ..
theorem pEqlNil (w : World) : (binOp .eql 56 .nilIface .nilIface).run Try.prog w = .ok (.bool true) w := run_eql_nil_nil (h := hiProgram2) ..
theorem codeF_meth (t : Pt) (w : World) : (method 215 (ptT t) (ptV t) "loop.example/kleenetests/impl.code").run Try.prog w = .ok (codeF t, ptV t) w := by
  cases t <;> kernel_rfl
theorem codeF_call (t : Pt) (x : Array Value) (w : World) : (callFunc (codeF t) x).run Try.prog w = .ok (.enter (codeF t) x) w := by
  cases t <;> kernel_rfl
set_option maxRecDepth 100000 in
set_option maxHeartbeats 1000000 in
theorem codeI_c : ∀ (t : Pt), t.Good → ∀ (p : Nat) (pI : Int) (w : World), pI = (p : Int) → p + 4 * t.words.length ≤ 1000 →
    Calls Try.prog (codeF t) #[ptV t, .int .i64 pI] w (RetF 49 w t.many (t.code p))
  | .one x, hg, p, pI, w, hpI, hp => by
    subst hpI
    show Calls Try.prog 95 #[.agg #[.int .i64 x], .int .i64 (p : Int)] w _
    have hg : x = 15 ∨ (16 ≤ x ∧ x ≤ 18) := hg
    by_cases h1 : x = 15
    · subst h1
      clear hg
      go_enter Try.func95, Try.ntmps95
      go_wp2
      go_ret
      exact ⟨_, rfl, OwnF.nil _ _ _, by (repeat (first | exact Ext.refl _ | assumption | refine Ext.alloc ?_ _ | refine Ext.drewN ?_ _ | refine Ext.drew ?_))⟩
    · have e1 : (x == 15) = false := by simp [h1]
      have hR : Hid (Pt.many (.one x) = 1 ∧ Pt.code (.one x) p = [0, x, 0]) := ⟨if_neg h1, if_neg h1⟩
      clear h1 hg
      go_enter Try.func95, Try.ntmps95
      go_wp2
      go_ret
      exact ⟨.slice (some ⟨w.heap.size + 1, 0, none⟩) 1 1, rfl, by rw [hR.out.1, hR.out.2]; have h := OwnF.lit (w.alloc (.cells #[.int .i64 x] 73)) w.heap.size 49 0 x 0 (by simp); rw [World.size_alloc] at h; exact h, by (repeat (first | exact Ext.refl _ | assumption | refine Ext.alloc ?_ _ | refine Ext.drewN ?_ _ | refine Ext.drew ?_))⟩
  | .loop t a, hg, p, pI, w, hpI, hp => by
    subst hpI
    show Calls Try.prog 113 #[.agg #[.int .i64 t, pv a], .int .i64 (p : Int)] w _
    have iha := Lib.hid (codeI_c a hg.2)
    have hlen : (Pt.loop t a).words.length = a.words.length + 1 := by simp [Pt.words]
    have hm := a.many_le
    have hR : Hid (Pt.many (.loop t a) = 1 + a.many + 1 ∧ Pt.code (.loop t a) p = [1, t, ((p : Int) + a.many + 2)] ++ a.code (p + 1) ++ [2, 0, (p : Int)]) := ⟨by simp only [Pt.many]; omega, by simp only [Pt.code]; congr 1⟩
    have h1 := codeF_meth a
    have h2 := codeF_call a
    have ih2 : Hid (∀ w', Calls Try.prog (codeF a) #[ptV a, .int .i64 ((p : Int) + 1)] w' (RetF 49 w' a.many (a.code (p + 1)))) := fun w' => iha.out (p + 1) _ w' (by omega) (by omega)
    rw [pv_eq a]
    rw [hlen] at hp
    clear hg hlen iha
    generalize ptT a = T at *
    generalize ptV a = V at *
    generalize codeF a = F at *
    go_enter Try.func113, Try.ntmps113
    go_wp2_with fail
    refine (ih2.out _).mono ?_
    rintro e w1 ⟨v1, rfl, o1, y⟩
    have hx1 := Ext.trans (show Ext w _ by (repeat (first | exact Ext.refl _ | assumption | refine Ext.alloc ?_ _ | refine Ext.drewN ?_ _ | refine Ext.drew ?_))) y
    have k0 := Ext.cell' (b := w.heap.size) (o := 0) y (v := .int .i64 t) (by simp) (by simp)
    obtain ⟨a1, c1, rfl, i1⟩ := o1.shape
    have I1 := Lib.hid i1
    have HX1 := Lib.hid hx1
    have hz1 := hx1.size
    have hz1' : w.heap.size < w1.heap.size := by have := y.size; simp at this; omega
    clear y hx1 i1 o1
    generalize a.many = m at *
    go_wp2_with (at_builtin; refine any_append_inss (by rfl) _ _ _ rfl (w.heap.size) 49 Try.underlying29 infoIns _ (1) ([1, t, (p : Int) + m + 2]) rfl (by first | exact OwnF.lit _ _ _ _ _ _ hz1 | exact (OwnF.lit _ _ _ _ _ _ hz1).ext (by (repeat (first | exact Ext.refl _ | assumption | refine Ext.alloc ?_ _ | refine Ext.drewN ?_ _ | refine Ext.drew ?_)))) _ (m) _ (a.code (p + 1)) rfl (I1.out.ext (by (repeat (first | exact Ext.refl _ | assumption | refine Ext.alloc ?_ _ | refine Ext.drewN ?_ _ | refine Ext.drew ?_)))) (by omega) (by first | omega | (simp; done) | (simp; omega)) ?_)
    intro v2 w2 o2 g2
    have hx2 := Lib.hid (Ext.rowOf (HX1.out.trans (by (repeat (first | exact Ext.refl _ | assumption | refine Ext.alloc ?_ _ | refine Ext.drewN ?_ _ | refine Ext.drew ?_)))) g2 hz1)
    obtain ⟨a2, c2, rfl⟩ := o2.shape'
    have O2 := Lib.hid o2
    have hz2 := hx2.out.size
    clear o2 g2
    go_wp2_with (at_builtin; refine any_append_inss (by rfl) _ _ _ rfl (w.heap.size) 49 Try.underlying29 infoIns _ (1 + m) (_) rfl (O2.out.ext (by (repeat (first | exact Ext.refl _ | assumption | refine Ext.alloc ?_ _ | refine Ext.drewN ?_ _ | refine Ext.drew ?_)))) _ (1) _ ([2, 0, (p : Int)]) rfl (by first | exact (OwnF.lit _ _ _ _ _ _ (Nat.le_refl _)).flat | exact ((OwnF.lit _ _ _ _ _ _ (Nat.le_refl _)).flat).ext (by (repeat (first | exact Ext.refl _ | assumption | refine Ext.alloc ?_ _ | refine Ext.drewN ?_ _ | refine Ext.drew ?_)))) (by omega) (by first | omega | (simp; done) | (simp; omega)) ?_)
    intro v3 w3 o3 g3
    have hx3 := Lib.hid (Ext.row (hx2.out.trans (by (repeat (first | exact Ext.refl _ | assumption | refine Ext.alloc ?_ _ | refine Ext.drewN ?_ _ | refine Ext.drew ?_)))) g3 (fun k hk => (World.ownsRow.lt O2.out k hk).1))
    obtain ⟨a3, c3, rfl⟩ := o3.shape'
    have O3 := Lib.hid o3
    clear o3 g3
    go_wp2
    go_ret
    exact ⟨.slice a3 (1 + m + 1) c3, rfl, by rw [hR.out.1, hR.out.2]; simpa only [List.cons_append, List.nil_append, List.append_assoc] using O3.out, hx3.out.trans (by (repeat (first | exact Ext.refl _ | assumption | refine Ext.alloc ?_ _ | refine Ext.drewN ?_ _ | refine Ext.drew ?_)))⟩
  | .seq a c, hg, p, pI, w, hpI, hp => by
    subst hpI
    show Calls Try.prog 98 #[.agg #[pv a, pv c], .int .i64 (p : Int)] w _
    have iha := Lib.hid (codeI_c a hg.1)
    have ihc := Lib.hid (codeI_c c hg.2)
    have hlen : (Pt.seq a c).words.length = a.words.length + c.words.length + 1 := by simp [Pt.words]; omega
    have hma := a.many_le
    have hmc := c.many_le
    have hR : Hid (Pt.many (.seq a c) = a.many + c.many ∧ Pt.code (.seq a c) p = a.code p ++ c.code (p + a.many)) := ⟨rfl, rfl⟩
    have h1 := codeF_meth a
    have h2 := codeF_call a
    have h3 := codeF_meth c
    have h4 := codeF_call c
    have ih2 : Hid (∀ w', Calls Try.prog (codeF a) #[ptV a, .int .i64 (p : Int)] w' (RetF 49 w' a.many (a.code p))) := fun w' => iha.out p _ w' rfl (by omega)
    have ih3 : Hid (∀ w', Calls Try.prog (codeF c) #[ptV c, .int .i64 ((p : Int) + a.many)] w' (RetF 49 w' c.many (c.code (p + a.many)))) := fun w' => ihc.out (p + a.many) _ w' (by omega) (by omega)
    rw [pv_eq a, pv_eq c]
    rw [hlen] at hp
    clear hg hlen iha ihc
    generalize ptT a = T at *
    generalize ptV a = V at *
    generalize codeF a = F at *
    generalize ptT c = T2 at *
    generalize ptV c = V2 at *
    generalize codeF c = F2 at *
    go_enter Try.func98, Try.ntmps98
    go_wp2_with fail
    refine (ih2.out _).mono ?_
    rintro e w1 ⟨v1, rfl, o1, y⟩
    have hx1 := Ext.trans (show Ext w _ by (repeat (first | exact Ext.refl _ | assumption | refine Ext.alloc ?_ _ | refine Ext.drewN ?_ _ | refine Ext.drew ?_))) y
    have k0 := Ext.cell' (b := w.heap.size) (o := 1) y (v := .iface T2 V2) (by simp) (by simp)
    obtain ⟨a1, c1, rfl, i1⟩ := o1.shape
    have O1 := Lib.hid (o1.mono (B' := w.heap.size) (by simp))
    have HX1 := Lib.hid hx1
    have hz1 := hx1.size
    have hz1' : w.heap.size < w1.heap.size := by have := y.size; simp at this; omega
    clear y hx1 i1 o1
    generalize a.many = m at *
    go_wp2_with fail
    refine (ih3.out _).mono ?_
    rintro e w2 ⟨v2, rfl, o2, y⟩
    have hx2 := Lib.hid (HX1.out.trans (Ext.trans (show Ext w1 _ by (repeat (first | exact Ext.refl _ | assumption | refine Ext.alloc ?_ _ | refine Ext.drewN ?_ _ | refine Ext.drew ?_))) y))
    obtain ⟨a2, c2, rfl, i2⟩ := o2.shape
    have I2 := Lib.hid i2
    have O12 := Lib.hid (O1.out.ext (Ext.trans (show Ext w1 _ by (repeat (first | exact Ext.refl _ | assumption | refine Ext.alloc ?_ _ | refine Ext.drewN ?_ _ | refine Ext.drew ?_))) y))
    have hz2 := hx2.out.size
    clear y i2 o2
    go_wp2_with (at_builtin; refine any_append_inss (by rfl) _ _ _ rfl (w.heap.size) 49 Try.underlying29 infoIns _ (m) (_) rfl (O12.out.ext (by (repeat (first | exact Ext.refl _ | assumption | refine Ext.alloc ?_ _ | refine Ext.drewN ?_ _ | refine Ext.drew ?_)))) _ (c.many) _ (c.code (p + m)) rfl (I2.out.ext (by (repeat (first | exact Ext.refl _ | assumption | refine Ext.alloc ?_ _ | refine Ext.drewN ?_ _ | refine Ext.drew ?_)))) (by omega) (by first | omega | (simp; done) | (simp; omega)) ?_)
    intro v4 w4 o4 g4
    have hx4 := Lib.hid (Ext.row (hx2.out.trans (by (repeat (first | exact Ext.refl _ | assumption | refine Ext.alloc ?_ _ | refine Ext.drewN ?_ _ | refine Ext.drew ?_)))) g4 (fun k hk => (World.ownsRow.lt O12.out k hk).1))
    obtain ⟨a4, c4, rfl⟩ := o4.shape'
    have O4 := Lib.hid o4
    clear o4 g4
    go_wp2
    go_ret
    exact ⟨.slice a4 (m + c.many) c4, rfl, by rw [hR.out.1, hR.out.2]; exact O4.out, hx4.out.trans (by (repeat (first | exact Ext.refl _ | assumption | refine Ext.alloc ?_ _ | refine Ext.drewN ?_ _ | refine Ext.drew ?_)))⟩
  | .ifs t a c, hg, p, pI, w, hpI, hp => by
    subst hpI
    show Calls Try.prog 106 #[.agg #[.int .i64 t, pv a, pv c], .int .i64 (p : Int)] w _
    have iha := Lib.hid (codeI_c a hg.2.1)
    have ihc := Lib.hid (codeI_c c hg.2.2)
    have hlen : (Pt.ifs t a c).words.length = a.words.length + c.words.length + 1 := by simp [Pt.words]; omega
    have hma := a.many_le
    have hmc := c.many_le
    have hR : Hid (Pt.many (.ifs t a c) = 1 + a.many + 1 + c.many ∧ Pt.code (.ifs t a c) p = [1, t, ((p : Int) + 1 + a.many + 1)] ++ a.code (p + 1) ++ [2, 0, ((p : Int) + 1 + a.many + 1 + c.many)] ++ c.code (p + a.many + 2)) :=
      ⟨by simp only [Pt.many]; omega, by simp only [Pt.code]; rw [show ((p + a.many + 2 : Nat) : Int) = (p : Int) + 1 + a.many + 1 by omega, show ((p + a.many + 2 + c.many : Nat) : Int) = (p : Int) + 1 + a.many + 1 + c.many by omega]⟩
    have h1 := codeF_meth a
    have h2 := codeF_call a
    have h3 := codeF_meth c
    have h4 := codeF_call c
    have ih2 : Hid (∀ w', Calls Try.prog (codeF a) #[ptV a, .int .i64 ((p : Int) + 1)] w' (RetF 49 w' a.many (a.code (p + 1)))) := fun w' => iha.out (p + 1) _ w' (by omega) (by omega)
    have ih3 : Hid (∀ w', Calls Try.prog (codeF c) #[ptV c, .int .i64 ((p : Int) + 1 + a.many + 1)] w' (RetF 49 w' c.many (c.code (p + a.many + 2)))) := fun w' => ihc.out (p + a.many + 2) _ w' (by omega) (by omega)
    rw [pv_eq a, pv_eq c]
    rw [hlen] at hp
    clear hg hlen iha ihc
    generalize ptT a = T at *
    generalize ptV a = V at *
    generalize codeF a = F at *
    generalize ptT c = T2 at *
    generalize ptV c = V2 at *
    generalize codeF c = F2 at *
    go_enter Try.func106, Try.ntmps106
    go_wp2_with fail
    refine (ih2.out _).mono ?_
    rintro e w1 ⟨v1, rfl, o1, y⟩
    have hx1 := Ext.trans (show Ext w _ by (repeat (first | exact Ext.refl _ | assumption | refine Ext.alloc ?_ _ | refine Ext.drewN ?_ _ | refine Ext.drew ?_))) y
    have k0 := Ext.cell' (b := w.heap.size) (o := 0) y (v := .int .i64 t) (by simp) (by simp)
    have k1 := Ext.cell' (b := w.heap.size) (o := 2) y (v := .iface T2 V2) (by simp) (by simp)
    obtain ⟨a1, c1, rfl, i1⟩ := o1.shape
    have I1 := Lib.hid i1
    have HX1 := Lib.hid hx1
    have hz1 := hx1.size
    have hz1' : w.heap.size < w1.heap.size := by have := y.size; simp at this; omega
    clear y hx1 i1 o1
    generalize a.many = m at *
    go_wp2_with fail
    refine (ih3.out _).mono ?_
    rintro e w2 ⟨v2, rfl, o2, y⟩
    have hx2 := Lib.hid (HX1.out.trans (Ext.trans (show Ext w1 _ by (repeat (first | exact Ext.refl _ | assumption | refine Ext.alloc ?_ _ | refine Ext.drewN ?_ _ | refine Ext.drew ?_))) y))
    have k2 := Ext.cell' (Ext.trans (show Ext w1 _ by (repeat (first | exact Ext.refl _ | assumption | refine Ext.alloc ?_ _ | refine Ext.drewN ?_ _ | refine Ext.drew ?_))) y) k0 hz1'
    obtain ⟨a2, c2, rfl, i2⟩ := o2.shape
    have I2 := Lib.hid i2
    have I12 := Lib.hid (I1.out.ext (Ext.trans (show Ext w1 _ by (repeat (first | exact Ext.refl _ | assumption | refine Ext.alloc ?_ _ | refine Ext.drewN ?_ _ | refine Ext.drew ?_))) y))
    have hz2 := hx2.out.size
    have hz2' : w.heap.size < w2.heap.size := by have := Below.size (Ext.trans (show Ext w1 _ by (repeat (first | exact Ext.refl _ | assumption | refine Ext.alloc ?_ _ | refine Ext.drewN ?_ _ | refine Ext.drew ?_))) y); omega
    clear y i2 o2 k0 k1
    generalize c.many = k at *
    go_wp2_with (at_builtin; refine any_append_inss (by rfl) _ _ _ rfl (w2.heap.size) 49 Try.underlying29 infoIns _ (1) ([1, t, (p : Int) + 1 + m + 1]) rfl (by first | exact OwnF.lit _ _ _ _ _ _ (Nat.le_refl _) | exact (OwnF.lit _ _ _ _ _ _ (Nat.le_refl _)).ext (by (repeat (first | exact Ext.refl _ | assumption | refine Ext.alloc ?_ _ | refine Ext.drewN ?_ _ | refine Ext.drew ?_)))) _ (m) _ (a.code (p + 1)) rfl (I12.out.ext (by (repeat (first | exact Ext.refl _ | assumption | refine Ext.alloc ?_ _ | refine Ext.drewN ?_ _ | refine Ext.drew ?_)))) (by omega) (by first | omega | (simp; done) | (simp; omega)) ?_)
    intro v3 w3 o3 g3
    have hx3 := Lib.hid (Ext.rowOf (hx2.out.trans (by (repeat (first | exact Ext.refl _ | assumption | refine Ext.alloc ?_ _ | refine Ext.drewN ?_ _ | refine Ext.drew ?_)))) g3 hz2)
    have hx23 := Lib.hid (Ext.rowOf (w0 := w2) (show Ext w2 _ by (repeat (first | exact Ext.refl _ | assumption | refine Ext.alloc ?_ _ | refine Ext.drewN ?_ _ | refine Ext.drew ?_))) g3 (Nat.le_refl _))
    obtain ⟨a3, c3, rfl⟩ := o3.shape'
    have O3 := Lib.hid o3
    have hz23 := hx23.out.size
    have I23 := Lib.hid (I2.out.ext hx23.out)
    have hz3 := hx3.out.size
    clear o3 g3
    go_wp2_with (at_builtin; refine any_append_inss (by rfl) _ _ _ rfl (w2.heap.size) 49 Try.underlying29 infoIns _ (1 + m) (_) rfl (O3.out.ext (by (repeat (first | exact Ext.refl _ | assumption | refine Ext.alloc ?_ _ | refine Ext.drewN ?_ _ | refine Ext.drew ?_)))) _ (1) _ ([2, 0, (p : Int) + 1 + m + 1 + k]) rfl (by first | exact (OwnF.lit _ _ _ _ _ _ (Nat.le_refl _)).flat | exact ((OwnF.lit _ _ _ _ _ _ (Nat.le_refl _)).flat).ext (by (repeat (first | exact Ext.refl _ | assumption | refine Ext.alloc ?_ _ | refine Ext.drewN ?_ _ | refine Ext.drew ?_)))) (by omega) (by first | omega | (simp; done) | (simp; omega)) ?_)
    intro v4 w4 o4 g4
    have hx4 := Lib.hid (Ext.row (hx3.out.trans (by (repeat (first | exact Ext.refl _ | assumption | refine Ext.alloc ?_ _ | refine Ext.drewN ?_ _ | refine Ext.drew ?_)))) g4 (fun k hk => Nat.le_trans hz2 (World.ownsRow.lt O3.out k hk).1))
    have hx34 := Lib.hid (Ext.row (hx23.out.trans (by (repeat (first | exact Ext.refl _ | assumption | refine Ext.alloc ?_ _ | refine Ext.drewN ?_ _ | refine Ext.drew ?_)))) g4 (fun k hk => (World.ownsRow.lt O3.out k hk).1))
    obtain ⟨a4, c4, rfl⟩ := o4.shape'
    have O4 := Lib.hid o4
    have hz24 := hx34.out.size
    have I24 := Lib.hid (I2.out.ext hx34.out)
    have hz4 := hx4.out.size
    clear o4 g4
    go_wp2_with (at_builtin; refine any_append_inss (by rfl) _ _ _ rfl (w2.heap.size) 49 Try.underlying29 infoIns _ (1 + m + 1) (_) rfl (O4.out.ext (by (repeat (first | exact Ext.refl _ | assumption | refine Ext.alloc ?_ _ | refine Ext.drewN ?_ _ | refine Ext.drew ?_)))) _ (k) _ (c.code (p + m + 2)) rfl (I24.out.ext (by (repeat (first | exact Ext.refl _ | assumption | refine Ext.alloc ?_ _ | refine Ext.drewN ?_ _ | refine Ext.drew ?_)))) (by omega) (by first | omega | (simp; done) | (simp; omega)) ?_)
    intro v5 w5 o5 g5
    have hx5 := Lib.hid (Ext.row (hx4.out.trans (by (repeat (first | exact Ext.refl _ | assumption | refine Ext.alloc ?_ _ | refine Ext.drewN ?_ _ | refine Ext.drew ?_)))) g5 (fun k hk => Nat.le_trans hz2 (World.ownsRow.lt O4.out k hk).1))
    obtain ⟨a5, c5, rfl⟩ := o5.shape'
    have O5 := Lib.hid o5
    clear o5 g5
    go_wp2
    go_ret
    exact ⟨.slice a5 (1 + m + 1 + k) c5, rfl, by rw [hR.out.1, hR.out.2]; simpa only [List.cons_append, List.nil_append, List.append_assoc] using O5.out.mono hz2, hx5.out.trans (by (repeat (first | exact Ext.refl _ | assumption | refine Ext.alloc ?_ _ | refine Ext.drewN ?_ _ | refine Ext.drew ?_)))⟩
end Go.Proofs.Ytnhdachenckceaa
