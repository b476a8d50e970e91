/- Contracts: the expression of a program, in the reference and in the program. -/
import Derived.Test.YtnhdachenckceaaQa
import Derived.Test.YtnhdachenckceaaPk
namespace Go.Proofs.Ytnhdachenckceaa
set_option linter.unusedVariables false
open Go.RowKit Go.Kt

theorem RetFit.yes {w w' : World} {l : List Int} {e : Ending} (h : RetFit w l e w') (hl : l.length ≤ 40) : ∃ v, e = .returned (.tuple #[v, .bool true]) ∧ OwnI w' w.heap.size 3 v l ∧ Ext w w' := by
  unfold RetFit at h; rw [(fit_yes hl).1, (fit_yes hl).2] at h; exact h
theorem RetFit.no {w w' : World} {l : List Int} {e : Ending} (h : RetFit w l e w') (hl : ¬ l.length ≤ 40) : ∃ v, e = .returned (.tuple #[v, .bool false]) ∧ OwnI w' w.heap.size 3 v [] ∧ Ext w w' := by
  unfold RetFit at h; rw [(fit_no hl).1, (fit_no hl).2] at h; exact h
theorem RetFit.nay {w w' : World} {l : List Int} (hl : ¬ l.length ≤ 40) (hx : Ext w w') : RetFit w l (.returned (.tuple #[.slice none 0 0, .bool false])) w' := by
  unfold RetFit; rw [(fit_no hl).1, (fit_no hl).2]; exact ⟨_, rfl, OwnI.nil _ _ _, hx⟩
theorem RetFit.aye {w w' : World} {l : List Int} {v : Value} (hl : l.length ≤ 40) (ho : OwnI w' w.heap.size 3 v l) (hx : Ext w w') : RetFit w l (.returned (.tuple #[v, .bool true])) w' := by
  unfold RetFit; rw [(fit_yes hl).1, (fit_yes hl).2]; exact ⟨_, rfl, ho, hx⟩
theorem RetFit.later {w0 w w' : World} {l : List Int} {e : Ending} (h : RetFit w l e w') (hx : Ext w0 w) : RetFit w0 l e w' := by
  obtain ⟨v, he, ho, y⟩ := h
  exact ⟨v, he, ho.mono hx.size, hx.trans y⟩
theorem len_two (s : Int) (a b : Kt) : (Kt.two s a b).words.length = a.words.length + b.words.length + 1 := by simp [Kt.words]; omega
theorem len_star (a : Kt) : (Kt.star a).words.length = a.words.length + 1 := by simp [Kt.words]
theorem len_leaf (s : Int) : (Kt.leaf s).words.length = 1 := rfl
/-- The choice, the loop. -/
def ifK (t : Int) (a b : Kt) : Kt := .two 20 (.two 19 (.leaf t) a) (.two 19 (.leaf (15 - t)) b)
def whK (t : Int) (a : Kt) : Kt := .two 19 (.star (.two 19 (.leaf t) a)) (.leaf (15 - t))
set_option maxHeartbeats 1000000 in
theorem iKatIf_c (t : Int) (a b : Option Addr) (ca cb : Nat) (ta tb : Kt) (w : World) (h0 : 0 ≤ t) (h1 : t ≤ 15) (ha : IntsAt w a ta.words) (hb : IntsAt w b tb.words) (ga : ta.Good) (gb : tb.Good) (la : ta.words.length ≤ 40) (lb : tb.words.length ≤ 40) :
    Calls Try.prog 109 #[.int .i64 t, .slice a ta.words.length ca, .slice b tb.words.length cb] w (RetK w (ifK t ta tb)) := by
  have hv : inB t 0 15 = true := by simp [inB]; omega
  have HA := Lib.hid ha
  have HB := Lib.hid hb
  have HG : Hid (ta.Good ∧ tb.Good ∧ (Kt.leaf t).Good ∧ (Kt.leaf (15 - t)).Good) := ⟨ga, gb, ⟨h0, by omega⟩, ⟨by omega, by omega⟩⟩
  have C1 : Hid (∀ w', Ext w w' → Calls Try.prog 102 #[.slice (some ⟨w'.heap.size, 0, none⟩) 1 1, .slice a ta.words.length ca] (w'.alloc (.cells #[.int .i64 t] 3)) (RetK (w'.alloc (.cells #[.int .i64 t] 3)) (.two 19 (.leaf t) ta))) := fun w' hx =>
    iKatThen_c (some ⟨w'.heap.size, 0, none⟩) a 1 ca (.leaf t) ta _ ((OwnI.lit1 w' w'.heap.size 3 t (Nat.le_refl _)).ints) (HA.out.ext (hx.alloc _)) HG.out.2.2.1 ga (by rw [len_leaf]; omega) la
  have C2 : Hid (∀ w', Ext w w' → Calls Try.prog 102 #[.slice (some ⟨w'.heap.size, 0, none⟩) 1 1, .slice b tb.words.length cb] (w'.alloc (.cells #[.int .i64 (15 - t)] 3)) (RetK (w'.alloc (.cells #[.int .i64 (15 - t)] 3)) (.two 19 (.leaf (15 - t)) tb))) := fun w' hx =>
    iKatThen_c (some ⟨w'.heap.size, 0, none⟩) b 1 cb (.leaf (15 - t)) tb _ ((OwnI.lit1 w' w'.heap.size 3 (15 - t) (Nat.le_refl _)).ints) (HB.out.ext (hx.alloc _)) HG.out.2.2.2 gb (by rw [len_leaf]; omega) lb
  have hlen : (ifK t ta tb).words.length = ta.words.length + tb.words.length + 5 := by unfold ifK; rw [len_two, len_two, len_two, len_leaf, len_leaf]; omega
  have HL : Hid ((Kt.two 19 (.leaf t) ta).words.length = ta.words.length + 2 ∧ (Kt.two 19 (.leaf (15 - t)) tb).words.length = tb.words.length + 2) := ⟨by rw [len_two, len_leaf]; omega, by rw [len_two, len_leaf]; omega⟩
  have HW := Lib.hid hlen
  clear ha hb ga gb hlen
  go_enter Try.func109, Try.ntmps109
  go_wp2_with fail
  refine (iTestValid_c _ _).mono ?_
  rw [hv]
  rintro e w' ⟨rfl, rfl⟩
  go_wp2_with fail
  refine (C1.out _ (by (repeat (first | exact Ext.refl _ | assumption | refine Ext.alloc ?_ _ | refine Ext.drewN ?_ _ | refine Ext.drew ?_)))).mono ?_
  intro e w1 hr
  by_cases f1 : ta.words.length + 2 ≤ 40
  · obtain ⟨v1, rfl, o1, y⟩ := RetFit.yes hr (by rw [HL.out.1]; exact f1)
    have hx1 := Lib.hid (Ext.trans (show Ext w _ by (repeat (first | exact Ext.refl _ | assumption | refine Ext.alloc ?_ _ | refine Ext.drewN ?_ _ | refine Ext.drew ?_))) y)
    obtain ⟨a1, c1, rfl, -⟩ := o1.shape
    have O1 := Lib.hid o1
    have hz1 := hx1.out.size
    clear hr o1 y
    go_wp2_with fail
    refine (kTestNot_i t _ ⟨h0, h1⟩).mono ?_
    rintro e w' ⟨rfl, rfl⟩
    go_wp2_with fail
    refine (C2.out _ (by first | exact hx1.out | exact hx1.out.trans (by (repeat (first | exact Ext.refl _ | assumption | refine Ext.alloc ?_ _ | refine Ext.drewN ?_ _ | refine Ext.drew ?_))))).mono ?_
    intro e w2 hr
    by_cases f2 : tb.words.length + 2 ≤ 40
    · obtain ⟨v2, rfl, o2, y⟩ := RetFit.yes hr (by rw [HL.out.2]; exact f2)
      have hx2 := Lib.hid (hx1.out.trans (Ext.trans (show Ext w1 _ by (repeat (first | exact Ext.refl _ | assumption | refine Ext.alloc ?_ _ | refine Ext.drewN ?_ _ | refine Ext.drew ?_))) y))
      obtain ⟨a2, c2, rfl, -⟩ := o2.shape
      have O12 := Lib.hid (O1.out.ext (Ext.trans (show Ext w1 _ by (repeat (first | exact Ext.refl _ | assumption | refine Ext.alloc ?_ _ | refine Ext.drewN ?_ _ | refine Ext.drew ?_))) y))
      have O2 := Lib.hid o2
      have hz2 := hx2.out.size
      clear hr o2 y
      have C3 : Hid (∀ w', Ext w2 w' → Calls Try.prog 111 #[.slice a1 (Kt.two 19 (.leaf t) ta).words.length c1, .slice a2 (Kt.two 19 (.leaf (15 - t)) tb).words.length c2] w' (RetK w' (ifK t ta tb))) := fun w' hx =>
        iKatPlus_c a1 a2 c1 c2 _ _ w' (O12.out.ints.ext hx) (O2.out.ints.ext hx) ⟨.inl rfl, HG.out.2.2.1, HG.out.1⟩ ⟨.inl rfl, HG.out.2.2.2, HG.out.2.1⟩ (by rw [HL.out.1]; exact f1) (by rw [HL.out.2]; exact f2)
      generalize (Kt.two 19 (.leaf t) ta).words.length = n1 at *
      generalize (Kt.two 19 (.leaf (15 - t)) tb).words.length = n2 at *
      go_wp2_with fail
      refine (C3.out _ (by (repeat (first | exact Ext.refl _ | assumption | refine Ext.alloc ?_ _ | refine Ext.drewN ?_ _ | refine Ext.drew ?_)))).mono ?_
      rintro e w3 ⟨v3, rfl, o3, y⟩
      have hx3 := Lib.hid (hx2.out.trans (Ext.trans (show Ext w2 _ by (repeat (first | exact Ext.refl _ | assumption | refine Ext.alloc ?_ _ | refine Ext.drewN ?_ _ | refine Ext.drew ?_))) y))
      have O3 := Lib.hid (o3.mono (B' := w.heap.size) (by first | omega | (simp; omega)))
      clear o3 y C3
      go_wp2
      go_ret2
      exact ⟨_, rfl, O3.out.ext (by (repeat (first | exact Ext.refl _ | assumption | refine Ext.alloc ?_ _ | refine Ext.drewN ?_ _ | refine Ext.drew ?_))), hx3.out.trans (by (repeat (first | exact Ext.refl _ | assumption | refine Ext.alloc ?_ _ | refine Ext.drewN ?_ _ | refine Ext.drew ?_)))⟩
    · obtain ⟨v2, rfl, o2, y⟩ := RetFit.no hr (by rw [HL.out.2]; exact f2)
      have hx2 := Lib.hid (hx1.out.trans (Ext.trans (show Ext w1 _ by (repeat (first | exact Ext.refl _ | assumption | refine Ext.alloc ?_ _ | refine Ext.drewN ?_ _ | refine Ext.drew ?_))) y))
      clear hr o2 y
      go_wp2
      go_ret2
      exact RetFit.nay (by rw [HW.out]; omega) (hx2.out.trans (by (repeat (first | exact Ext.refl _ | assumption | refine Ext.alloc ?_ _ | refine Ext.drewN ?_ _ | refine Ext.drew ?_))))
  · obtain ⟨v1, rfl, o1, y⟩ := RetFit.no hr (by rw [HL.out.1]; exact f1)
    have hx1 := Lib.hid (Ext.trans (show Ext w _ by (repeat (first | exact Ext.refl _ | assumption | refine Ext.alloc ?_ _ | refine Ext.drewN ?_ _ | refine Ext.drew ?_))) y)
    clear hr o1 y
    go_wp2
    go_ret2
    exact RetFit.nay (by rw [HW.out]; omega) (hx1.out.trans (by (repeat (first | exact Ext.refl _ | assumption | refine Ext.alloc ?_ _ | refine Ext.drewN ?_ _ | refine Ext.drew ?_))))
set_option maxHeartbeats 1000000 in
theorem iKatWhile_c (t : Int) (a : Option Addr) (ca : Nat) (ta : Kt) (w : World) (h0 : 0 ≤ t) (h1 : t ≤ 15) (ha : IntsAt w a ta.words) (ga : ta.Good) (la : ta.words.length ≤ 40) :
    Calls Try.prog 116 #[.int .i64 t, .slice a ta.words.length ca] w (RetK w (whK t ta)) := by
  have hv : inB t 0 15 = true := by simp [inB]; omega
  have HA := Lib.hid ha
  have HG : Hid (ta.Good ∧ (Kt.leaf t).Good ∧ (Kt.leaf (15 - t)).Good) := ⟨ga, ⟨h0, by omega⟩, ⟨by omega, by omega⟩⟩
  have C1 : Hid (∀ w', Ext w w' → Calls Try.prog 102 #[.slice (some ⟨w'.heap.size, 0, none⟩) 1 1, .slice a ta.words.length ca] (w'.alloc (.cells #[.int .i64 t] 3)) (RetK (w'.alloc (.cells #[.int .i64 t] 3)) (.two 19 (.leaf t) ta))) := fun w' hx =>
    iKatThen_c (some ⟨w'.heap.size, 0, none⟩) a 1 ca (.leaf t) ta _ ((OwnI.lit1 w' w'.heap.size 3 t (Nat.le_refl _)).ints) (HA.out.ext (hx.alloc _)) HG.out.2.1 ga (by rw [len_leaf]; omega) la
  have HL : Hid ((Kt.two 19 (.leaf t) ta).words.length = ta.words.length + 2 ∧ (Kt.star (Kt.two 19 (.leaf t) ta)).words.length = ta.words.length + 3 ∧ (whK t ta).words.length = ta.words.length + 5) := by
    refine ⟨by rw [len_two, len_leaf]; omega, by rw [len_star, len_two, len_leaf]; omega, ?_⟩
    unfold whK; rw [len_two, len_star, len_two, len_leaf, len_leaf]; omega
  clear ha ga
  go_enter Try.func116, Try.ntmps116
  go_wp2_with fail
  refine (iTestValid_c _ _).mono ?_
  rw [hv]
  rintro e w' ⟨rfl, rfl⟩
  go_wp2_with fail
  refine (C1.out _ (by (repeat (first | exact Ext.refl _ | assumption | refine Ext.alloc ?_ _ | refine Ext.drewN ?_ _ | refine Ext.drew ?_)))).mono ?_
  intro e w1 hr
  by_cases f1 : ta.words.length + 2 ≤ 40
  · obtain ⟨v1, rfl, o1, y⟩ := RetFit.yes hr (by rw [HL.out.1]; exact f1)
    have hx1 := Lib.hid (Ext.trans (show Ext w _ by (repeat (first | exact Ext.refl _ | assumption | refine Ext.alloc ?_ _ | refine Ext.drewN ?_ _ | refine Ext.drew ?_))) y)
    obtain ⟨a1, c1, rfl, -⟩ := o1.shape
    have hz1 := hx1.out.size
    have C2 : Hid (∀ w', Ext w1 w' → Calls Try.prog 117 #[.slice a1 (Kt.two 19 (.leaf t) ta).words.length c1] w' (RetK w' (.star (.two 19 (.leaf t) ta)))) := fun w' hx =>
      iKatStar_c a1 c1 _ w' (o1.ints.ext hx) ⟨.inl rfl, HG.out.2.1, HG.out.1⟩ (by rw [HL.out.1]; exact f1)
    clear hr o1 y
    go_wp2_with fail
    refine (C2.out _ (by (repeat (first | exact Ext.refl _ | assumption | refine Ext.alloc ?_ _ | refine Ext.drewN ?_ _ | refine Ext.drew ?_)))).mono ?_
    intro e w2 hr
    by_cases f2 : ta.words.length + 3 ≤ 40
    · obtain ⟨v2, rfl, o2, y⟩ := RetFit.yes hr (by rw [HL.out.2.1]; exact f2)
      have hx2 := Lib.hid (hx1.out.trans (Ext.trans (show Ext w1 _ by (repeat (first | exact Ext.refl _ | assumption | refine Ext.alloc ?_ _ | refine Ext.drewN ?_ _ | refine Ext.drew ?_))) y))
      obtain ⟨a2, c2, rfl, -⟩ := o2.shape
      have O2 := Lib.hid o2
      have hz2 := hx2.out.size
      clear hr o2 y
      have C3 : Hid (∀ w', Ext w2 w' → Calls Try.prog 102 #[.slice a2 (Kt.star (.two 19 (.leaf t) ta)).words.length c2, .slice (some ⟨w'.heap.size, 0, none⟩) 1 1] (w'.alloc (.cells #[.int .i64 (15 - t)] 3)) (RetK (w'.alloc (.cells #[.int .i64 (15 - t)] 3)) (whK t ta))) := fun w' hx =>
        iKatThen_c a2 (some ⟨w'.heap.size, 0, none⟩) c2 1 (.star (.two 19 (.leaf t) ta)) (.leaf (15 - t)) _ (O2.out.ints.ext (hx.alloc _)) ((OwnI.lit1 w' w'.heap.size 3 (15 - t) (Nat.le_refl _)).ints) ⟨.inl rfl, HG.out.2.1, HG.out.1⟩ HG.out.2.2 (by rw [HL.out.2.1]; exact f2) (by rw [len_leaf]; omega)
      go_wp2_with fail
      refine (kTestNot_i t _ ⟨h0, h1⟩).mono ?_
      rintro e w' ⟨rfl, rfl⟩
      go_wp2_with fail
      refine (C3.out _ (by (repeat (first | exact Ext.refl _ | assumption | refine Ext.alloc ?_ _ | refine Ext.drewN ?_ _ | refine Ext.drew ?_)))).mono ?_
      rintro e w3 ⟨v3, rfl, o3, y⟩
      have hx3 := Lib.hid (hx2.out.trans (Ext.trans (show Ext w2 _ by (repeat (first | exact Ext.refl _ | assumption | refine Ext.alloc ?_ _ | refine Ext.drewN ?_ _ | refine Ext.drew ?_))) y))
      have O3 := Lib.hid (o3.mono (B' := w.heap.size) (by first | omega | (simp; omega)))
      clear o3 y C3
      go_wp2
      go_ret2
      exact ⟨_, rfl, O3.out.ext (by (repeat (first | exact Ext.refl _ | assumption | refine Ext.alloc ?_ _ | refine Ext.drewN ?_ _ | refine Ext.drew ?_))), hx3.out.trans (by (repeat (first | exact Ext.refl _ | assumption | refine Ext.alloc ?_ _ | refine Ext.drewN ?_ _ | refine Ext.drew ?_)))⟩
    · obtain ⟨v2, rfl, o2, y⟩ := RetFit.no hr (by rw [HL.out.2.1]; exact f2)
      have hx2 := Lib.hid (hx1.out.trans (Ext.trans (show Ext w1 _ by (repeat (first | exact Ext.refl _ | assumption | refine Ext.alloc ?_ _ | refine Ext.drewN ?_ _ | refine Ext.drew ?_))) y))
      clear hr o2 y
      go_wp2
      go_ret2
      exact RetFit.nay (by rw [HL.out.2.2]; omega) (hx2.out.trans (by (repeat (first | exact Ext.refl _ | assumption | refine Ext.alloc ?_ _ | refine Ext.drewN ?_ _ | refine Ext.drew ?_))))
  · obtain ⟨v1, rfl, o1, y⟩ := RetFit.no hr (by rw [HL.out.1]; exact f1)
    have hx1 := Lib.hid (Ext.trans (show Ext w _ by (repeat (first | exact Ext.refl _ | assumption | refine Ext.alloc ?_ _ | refine Ext.drewN ?_ _ | refine Ext.drew ?_))) y)
    clear hr o1 y
    go_wp2
    go_ret2
    exact RetFit.nay (by rw [HL.out.2.2]; omega) (hx1.out.trans (by (repeat (first | exact Ext.refl _ | assumption | refine Ext.alloc ?_ _ | refine Ext.drewN ?_ _ | refine Ext.drew ?_))))

def katF : Pt → FuncId
  | .one _ => 96
  | .seq _ _ => 99
  | .ifs _ _ _ => 107
  | .loop _ _ => 114
theorem katF_meth (t : Pt) (w : World) : (method 215 (ptT t) (ptV t) "loop.example/kleenetests/impl.kat").run Try.prog w = .ok (katF t, ptV t) w := by
  cases t <;> kernel_rfl
theorem katF_call (t : Pt) (x : Array Value) (w : World) : (callFunc (katF t) x).run Try.prog w = .ok (.enter (katF t) x) w := by
  cases t <;> kernel_rfl
/-- What the expressions of two programs come to. -/
def Ret2 (w : World) (ka kc : Kt) (e : Ending) (w' : World) : Prop :=
  ∃ v1 v2, e = .returned (.tuple #[v1, v2, .bool (decide (ka.words.length ≤ 40 ∧ kc.words.length ≤ 40))]) ∧ (ka.words.length ≤ 40 → kc.words.length ≤ 40 → OwnI w' w.heap.size 3 v1 ka.words ∧ OwnI w' w.heap.size 3 v2 kc.words) ∧ Ext w w'
theorem Ret2.nay {w w' : World} {ka kc : Kt} {v1 v2 : Value} (h : ¬ (ka.words.length ≤ 40 ∧ kc.words.length ≤ 40)) (hx : Ext w w') : Ret2 w ka kc (.returned (.tuple #[v1, v2, .bool false])) w' :=
  ⟨v1, v2, by rw [decide_eq_false h], fun h1 h2 => absurd ⟨h1, h2⟩ h, hx⟩
theorem Ret2.aye {w w' : World} {ka kc : Kt} {v1 v2 : Value} (h1 : ka.words.length ≤ 40) (h2 : kc.words.length ≤ 40) (o1 : OwnI w' w.heap.size 3 v1 ka.words) (o2 : OwnI w' w.heap.size 3 v2 kc.words) (hx : Ext w w') :
    Ret2 w ka kc (.returned (.tuple #[v1, v2, .bool true])) w' := ⟨v1, v2, by rw [decide_eq_true ⟨h1, h2⟩], fun _ _ => ⟨o1, o2⟩, hx⟩
theorem two_c (p q : Pt) (hp : ∀ w, Calls Try.prog (katF p) #[ptV p] w (RetK w p.kat)) (hq : ∀ w, Calls Try.prog (katF q) #[ptV q] w (RetK w q.kat)) (w : World) :
    Calls Try.prog 101 #[pv p, pv q] w (Ret2 w p.kat q.kat) := by
  have HP := Lib.hid hp
  have HQ := Lib.hid hq
  have h1 := katF_meth p
  have h2 := katF_call p
  have h3 := katF_meth q
  have h4 := katF_call q
  rw [pv_eq p, pv_eq q]
  clear hp hq
  generalize ptT p = T at *
  generalize ptV p = V at *
  generalize katF p = F at *
  generalize ptT q = T2 at *
  generalize ptV q = V2 at *
  generalize katF q = F2 at *
  go_enter Try.func101, Try.ntmps101
  go_wp2_with fail
  refine (HP.out _).mono ?_
  intro e w1 hr
  by_cases f1 : p.kat.words.length ≤ 40
  · obtain ⟨v1, rfl, o1, y⟩ := RetFit.yes hr f1
    have hx1 := Lib.hid (Ext.trans (show Ext w _ by (repeat (first | exact Ext.refl _ | assumption | refine Ext.alloc ?_ _ | refine Ext.drewN ?_ _ | refine Ext.drew ?_))) y)
    have hz1 := hx1.out.size
    have O1 := Lib.hid o1
    clear hr o1 y
    go_wp2_with fail
    refine (HQ.out _).mono ?_
    intro e w2 hr
    by_cases f2 : q.kat.words.length ≤ 40
    · obtain ⟨v2, rfl, o2, y⟩ := RetFit.yes hr f2
      have hx2 := Lib.hid (hx1.out.trans (Ext.trans (show Ext w1 _ by (repeat (first | exact Ext.refl _ | assumption | refine Ext.alloc ?_ _ | refine Ext.drewN ?_ _ | refine Ext.drew ?_))) y))
      have O12 := Lib.hid (O1.out.ext (Ext.trans (show Ext w1 _ by (repeat (first | exact Ext.refl _ | assumption | refine Ext.alloc ?_ _ | refine Ext.drewN ?_ _ | refine Ext.drew ?_))) y))
      have O2 := Lib.hid (o2.mono (B' := w.heap.size) (by first | omega | (simp; omega)))
      clear hr o2 y
      go_wp2
      refine bodyPost_ret (v := .tuple #[v1, v2, .bool true]) (by simp [results, Try.results101, go_sem]) rfl ?_
      exact Ret2.aye f1 f2 (O12.out.ext (by (repeat (first | exact Ext.refl _ | assumption | refine Ext.alloc ?_ _ | refine Ext.drewN ?_ _ | refine Ext.drew ?_)))) (O2.out.ext (by (repeat (first | exact Ext.refl _ | assumption | refine Ext.alloc ?_ _ | refine Ext.drewN ?_ _ | refine Ext.drew ?_)))) (hx2.out.trans (by (repeat (first | exact Ext.refl _ | assumption | refine Ext.alloc ?_ _ | refine Ext.drewN ?_ _ | refine Ext.drew ?_))))
    · obtain ⟨v2, rfl, o2, y⟩ := RetFit.no hr f2
      have hx2 := Lib.hid (hx1.out.trans (Ext.trans (show Ext w1 _ by (repeat (first | exact Ext.refl _ | assumption | refine Ext.alloc ?_ _ | refine Ext.drewN ?_ _ | refine Ext.drew ?_))) y))
      clear hr o2 y
      go_wp2
      refine bodyPost_ret (v := .tuple #[v1, v2, .bool false]) (by simp [results, Try.results101, go_sem]) rfl ?_
      exact Ret2.nay (fun h => f2 h.2) (hx2.out.trans (by (repeat (first | exact Ext.refl _ | assumption | refine Ext.alloc ?_ _ | refine Ext.drewN ?_ _ | refine Ext.drew ?_))))
  · obtain ⟨v1, rfl, o1, y⟩ := RetFit.no hr f1
    have hx1 := Lib.hid (Ext.trans (show Ext w _ by (repeat (first | exact Ext.refl _ | assumption | refine Ext.alloc ?_ _ | refine Ext.drewN ?_ _ | refine Ext.drew ?_))) y)
    clear hr o1 y
    go_wp2
    refine bodyPost_ret (v := .tuple #[.slice none 0 0, .slice none 0 0, .bool false]) (by simp [results, Try.results101, go_sem]) rfl ?_
    exact Ret2.nay (fun h => f1 h.1) (hx1.out.trans (by (repeat (first | exact Ext.refl _ | assumption | refine Ext.alloc ?_ _ | refine Ext.drewN ?_ _ | refine Ext.drew ?_))))
end Go.Proofs.Ytnhdachenckceaa
