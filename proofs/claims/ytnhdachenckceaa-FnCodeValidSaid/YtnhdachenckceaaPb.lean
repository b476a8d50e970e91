/- Contracts: programs of words: the program's reader. -/
import Derived.Test.YtnhdachenckceaaCb
import Derived.Test.YtnhdachenckceaaPa
import Derived.Test.YtnhdachenckceaaPt
import Derived.Deep.DeepCutAuto
import Derived.Deep.RegionLaw
namespace Go.Proofs.Ytnhdachenckceaa
set_option linter.unusedVariables false
open Go.RowKit Go.Kt

/-- The value of a program. -/
def pv : Pt → Value
  | .one w => .iface 73 (.agg #[.int .i64 w])
  | .seq a b => .iface 75 (.agg #[pv a, pv b])
  | .ifs t a b => .iface 77 (.agg #[.int .i64 t, pv a, pv b])
  | .loop t a => .iface 79 (.agg #[.int .i64 t, pv a])
theorem pv_held (t : Pt) : Held (pv t) := by cases t <;> exact ⟨_, _, rfl⟩
theorem pv_one (t : Pt) : (pv t).oneCell' = true := by cases t <;> rfl
theorem infoPr : (Try.prog.info? 56).map (fun i => (i.zero, i.size, i.bytes)) = some (some .nilIface, 1, 16) := by rfl
/-- What a reader of programs answers. -/
def RetP (l : List Int) (w : World) (e : Ending) (w' : World) : Prop :=
  (∃ v, e = .returned v ∧ ((pvB l = true ∧ ∃ t : Pt, t.Good ∧ t.words = l ∧ v = pv t) ∨ (pvB l = false ∧ v = .nilIface))) ∧ Ext w w'
theorem RetP.nil {l : List Int} {w w' : World} (h : pvB l = false) (hx : Ext w w') : RetP l w (.returned .nilIface) w' := ⟨⟨_, rfl, .inr ⟨h, rfl⟩⟩, hx⟩

/-- A stack of programs of the call's own. -/
def OwnPs (w : World) (B : Nat) (v : Value) (ts : List Pt) : Prop := w.ownsRow B 56 1 v ts.length (ts.map pv)
theorem World.ownsRow_ext2 {w w' : World} {B E n : Nat} {v : Value} {xs : List Value} (h : w.ownsRow B E 1 v n xs) (e : Ext w w') : w'.ownsRow B E 1 v n xs := own_ext h e
theorem OwnPs.ext {w w' : World} {B : Nat} {v : Value} {ts : List Pt} (h : OwnPs w B v ts) (e : Ext w w') : OwnPs w' B v ts := own_ext h e
theorem OwnPs.grown {w0 w w' : World} {v : Value} {ts : List Pt} (h : OwnPs w w0.heap.size v ts) (hx : Ext w0 w) (hg : w.grownBy w' v.ownBlock) : Ext w0 w' :=
  Below.grown hx hg hx.size fun k hk => (World.ownsRow.lt h k hk).1
theorem OwnPs.cell {w : World} {B cap g : Nat} {ts : List Pt} (h : OwnPs w B (.slice (some ⟨g, 0, none⟩) ts.length cap) ts) (i : Nat) (t : Pt) (ht : ts[i]? = some t) : w.cell? ⟨g, i, none⟩ = some (pv t) := by
  have hi : i < ts.length := (List.getElem?_eq_some_iff.1 ht).1
  rw [World.ownsRow.cellAt h i (by omega), List.getElem?_map, ht]; rfl
theorem OwnPs.trunc {w : World} {B n cap g : Nat} {us ts : List Pt} (h : OwnPs w B (.slice (some ⟨g, 0, none⟩) n cap) (us ++ ts)) (hn : n = (us ++ ts).length) : OwnPs w B (.slice (some ⟨g, 0, none⟩) us.length cap) us := by
  subst hn
  have := own_trunc (k := us.length) h (by simp)
  rw [List.map_append, List.take_left' (by simp)] at this
  exact this
theorem OwnPs.frz {w : World} {B cap g : Nat} {ts : List Pt} (h : OwnPs w B (.slice (some ⟨g, 0, none⟩) ts.length cap) ts) (i : Nat) : w.frozen? ⟨g, i, none⟩ = false := World.ownsRow.frozenAt h i
theorem OwnPs.put {w : World} {B cap g : Nat} {us vs : List Pt} {p : Pt} (h : OwnPs w B (.slice (some ⟨g, 0, none⟩) (us ++ p :: vs).length cap) (us ++ p :: vs)) (t : Pt) :
    OwnPs (w.setCell ⟨g, us.length, none⟩ (pv t)) B (.slice (some ⟨g, 0, none⟩) (us.length + 1) cap) (us ++ [t]) := by
  have h1 := (World.ownsRow.stored h us.length (pv t)).1
  have h2 := own_trunc (k := us.length + 1) h1 (by simp)
  unfold OwnPs
  have e : (List.map pv (us ++ [t])) = ((List.map pv (us ++ p :: vs)).set us.length (pv t)).take (us.length + 1) := by
    have e2 : (List.map pv (us ++ p :: vs)).set us.length (pv t) = (List.map pv us ++ [pv t]) ++ List.map pv vs := by
      rw [List.map_append, List.set_append_right _ _ (by simp)]
      simp
    rw [e2, List.take_left' (by simp)]
    simp
  rw [e, show (us ++ [t]).length = us.length + 1 by simp]
  exact h2
theorem OwnPs.shape {w : World} {B : Nat} {v : Value} {ts : List Pt} (h : OwnPs w B v ts) : ∃ a cap, v = .slice a ts.length cap ∧ ts.length ≤ cap ∧ (0 < ts.length → ∃ g, a = some ⟨g, 0, none⟩ ∧ B ≤ g ∧ g < w.heap.size) := by
  obtain ⟨a, cap, rfl⟩ := own_shapev h
  exact ⟨a, cap, rfl, own_capv h, fun hn => own_headv h hn⟩

set_option maxRecDepth 100000 in
set_option maxHeartbeats 2000000 in
theorem readProgram_c (a : Option Addr) (cap : Nat) (l : List Int) (w : World) (hl : IntsAt w a l) (hlen : l.length ≤ 4194304) :
    Calls Try.prog 52 #[.slice a l.length cap] w (RetP l w) := by
  by_cases hn : 1 ≤ l.length ∧ l.length ≤ 16
  · have hn1 : 1 ≤ l.length := hn.1
    have hn2 : l.length ≤ 16 := hn.2
    have HN := Lib.hid hn
    obtain ⟨b, off, h1, h2⟩ := hl
    obtain ⟨rfl, hb⟩ := h1 (by omega)
    have H2 := Lib.hid h2
    clear h1 h2 hn
    go_enter Try.func52, Try.ntmps52
    go_wp2
    go_loopw [3, 17] (fun v i wr => Hid (∃ (k : Nat) (ts : List Pt), k ≤ l.length ∧ i = .int .i64 k ∧ Stk l k ts ∧ OwnPs wr w.heap.size v ts ∧ Ext w wr)) (fun _ i _ => l.length - (intOf i).toNat)
    case atStart => exact Lib.hid ⟨0, [], Nat.zero_le _, rfl, Stk.start l, ⟨rfl, .inl ⟨rfl, rfl⟩⟩, by (repeat (first | exact Ext.refl _ | assumption | refine Ext.alloc ?_ _ | refine Ext.drewN ?_ _ | refine Ext.drew ?_))⟩
    case round =>
      obtain ⟨k, ts, hk, rfl, hs, ho, hx⟩ := hrel.out
      clear hrel
      have hm : ts.length ≤ k := mny_le hs.2.2
      have hz := hx.size
      obtain ⟨av, cv, rfl, hcap, hhead⟩ := ho.shape
      by_cases hlt : k < l.length
      · have hc := H2.out k hlt
        have hc' := hx.cell' hc hb
        have hbr : b < wr.heap.size := Nat.lt_of_lt_of_le hb hz
        have HO := Lib.hid ho
        have HX := Lib.hid hx
        have HS := Lib.hid hs
        have ht : Hid (tk (nth l k) = if nth l k = 15 ∨ (16 ≤ nth l k ∧ nth l k ≤ 18) then 0 else if nth l k = 30 ∨ (100 ≤ nth l k ∧ nth l k ≤ 115) then 2 else if 200 ≤ nth l k ∧ nth l k ≤ 215 then 1 else -1) := rfl
        have hbad := Lib.hid (fun h => hs.bad hlt h)
        have hone := Lib.hid (fun h => hs.one hlt h)
        clear hc ho hx
        by_cases c1 : nth l k = 15 ∨ (16 ≤ nth l k ∧ nth l k ≤ 18)
        · have hS := Lib.hid (hone.out c1)
          clear hone hbad ht hs
          have hin : (nth l k == 15) = true ∨ ((nth l k == 15) = false ∧ inB (nth l k) 16 18 = true) := by
            rcases c1 with h | h
            · exact .inl (by simp [h])
            · exact .inr ⟨by simp; omega, by simp [inB]; omega⟩
          clear c1
          generalize nth l k = x at *
          rcases hin with e1 | ⟨e1, e2⟩
          all_goals
            go_wp2_with (first | (go_at_call 55; refine (isAct_c _ _).mono ?_; rintro e w' ⟨rfl, rfl⟩) | (at_builtin; refine want_append_val (by rfl) _ _ _ rfl w.heap.size 56 .nilIface 16 Try.underlying71 infoPr rfl (by decide) _ ts.length (ts.map pv) rfl (HO.out.ext (by (repeat (first | exact Ext.refl _ | assumption | refine Ext.alloc ?_ _ | refine Ext.drewN ?_ _ | refine Ext.drew ?_)))) _ (pv (.one x)) rfl (by simp [go_sem, pv]) (pv_one _) (by omega) (by simp; omega) ?_) | fail)
          all_goals
            intro v' w' ho' hg'
            have hx' := Lib.hid (OwnPs.grown (HO.out.ext (by (repeat (first | exact Ext.refl _ | assumption | refine Ext.alloc ?_ _ | refine Ext.drewN ?_ _ | refine Ext.drew ?_)))) (HX.out.trans (by (repeat (first | exact Ext.refl _ | assumption | refine Ext.alloc ?_ _ | refine Ext.drewN ?_ _ | refine Ext.drew ?_)))) hg')
            have hfin := Lib.hid (show OwnPs w' w.heap.size v' (ts ++ [.one x]) by unfold OwnPs; rw [List.map_append, List.length_append]; exact ho')
            clear ho' hg'
            go_wp2
            go_roundw
            case rel => exact Lib.hid ⟨k + 1, _, by omega, by go_num, hS.out, hfin.out, hx'.out.trans (by (repeat (first | exact Ext.refl _ | assumption | refine Ext.alloc ?_ _ | refine Ext.drewN ?_ _ | refine Ext.drew ?_)))⟩
            case measure => simp [intOf]; omega
        · have n1 := c1
          clear c1
          by_cases c2 : nth l k = 30
          · by_cases h2 : 2 ≤ ts.length
            · obtain ⟨us, p, q, rfl⟩ := split2 h2
              have hS := Lib.hid (hs.seq hlt c2)
              have hq : (us ++ [p, q]).length = us.length + 2 := by simp
              obtain ⟨g, rfl, hBg, hgs⟩ := hhead (by omega)
              have d0 := HO.out.cell us.length p (by simp)
              have d1 := HO.out.cell (us.length + 1) q (by simp)
              have hfz := HO.out.frz us.length
              have hT : Hid (∀ u, pv (.seq p q) = u → OwnPs (wr.setCell ⟨g, us.length, none⟩ u) w.heap.size (.slice (some ⟨g, 0, none⟩) (us.length + 1) cv) (us ++ [.seq p q])) := fun u hu => by
                subst hu; exact OwnPs.put (vs := [q]) HO.out _
              obtain ⟨tp, up, ep⟩ := pv_held p
              obtain ⟨tq, uq, eq⟩ := pv_held q
              have hv : Hid (pv (.seq p q) = .iface 75 (.agg #[.iface tp up, .iface tq uq])) := by unfold Hid; rw [pv, ep, eq]
              rw [ep] at d0
              rw [eq] at d1
              rw [hq] at hcap hm ⊢
              have hm2 : us.length + 2 ≤ 16 := by omega
              clear hbad hone h2 ht hhead hq HS hs
              have e1 : (nth l k == 15) = false := by simp; omega
              have e2 : inB (nth l k) 16 18 = false := by simp [inB]; omega
              have e3 : (nth l k == 30) = true := by simp [c2]
              generalize nth l k = x at *
              generalize us.length = m at *
              have hw0 : IntKind.i64.wrap (m : Int) = (m : Int) := IntWalk.i64_in _ (by omega)
              have hw1 : IntKind.i64.wrap ((m : Int) + 2 - 1) = (m : Int) + 1 := by rw [IntWalk.i64_in _ (by omega)]; omega
              have hl0 : (m : Int) < (m : Int) + 2 := by omega
              have hl1 : (m : Int) + 1 < (m : Int) + 2 := by omega
              have hl2 : 0 ≤ (m : Int) + 1 := by omega
              have hmc : (m : Int) ≤ cv := by omega
              have hmc1 : m + 1 ≤ cv := by omega
              have hm1 : ((m : Int) + 1).toNat = m + 1 := by omega
              go_wp2_with (first | (go_at_call 55; refine (isAct_c _ _).mono ?_; rintro e w' ⟨rfl, rfl⟩) | fail)
              go_region
              go_wp2
              go_roundw
              case rel => exact Lib.hid ⟨k + 1, _, by omega, by go_num, hS.out, (hT.out _ hv.out).ext (by (repeat (first | exact Ext.refl _ | assumption | refine Ext.alloc ?_ _ | refine Ext.drewN ?_ _ | refine Ext.drew ?_))), (Ext.setCell HX.out hBg _).trans (by (repeat (first | exact Ext.refl _ | assumption | refine Ext.alloc ?_ _ | refine Ext.drewN ?_ _ | refine Ext.drew ?_)))⟩
              case measure => simp [intOf]; omega
            · have hB := Lib.hid (hbad.out (.inr (by rw [ht.out, if_neg n1, if_pos (.inl c2)]; omega)))
              clear hbad hone ht hhead HS hs
              have e1 : (nth l k == 15) = false := by simp; omega
              have e2 : inB (nth l k) 16 18 = false := by simp [inB]; omega
              have e3 : (nth l k == 30) = true := by simp [c2]
              have h3 : ¬ 2 ≤ (ts.length : Int) := by omega
              have h4 : ¬ 100 ≤ nth l k := by omega
              have h5 : ¬ 200 ≤ nth l k := by omega
              generalize nth l k = x at *
              generalize ts.length = m at *
              go_wp2_with (first | (go_at_call 55; refine (isAct_c _ _).mono ?_; rintro e w' ⟨rfl, rfl⟩) | fail)
              all_goals (go_ret; exact RetP.nil hB.out (HX.out.trans (by (repeat (first | exact Ext.refl _ | assumption | refine Ext.alloc ?_ _ | refine Ext.drewN ?_ _ | refine Ext.drew ?_)))))
          · by_cases c3 : 100 ≤ nth l k ∧ nth l k ≤ 115
            · by_cases h2 : 2 ≤ ts.length
              · obtain ⟨us, p, q, rfl⟩ := split2 h2
                have hS := Lib.hid (hs.ifs hlt c3)
                have hq : (us ++ [p, q]).length = us.length + 2 := by simp
                obtain ⟨g, rfl, hBg, hgs⟩ := hhead (by omega)
                have d0 := HO.out.cell us.length p (by simp)
                have d1 := HO.out.cell (us.length + 1) q (by simp)
                have hfz := HO.out.frz us.length
                have hT : Hid (∀ u, pv (.ifs (nth l k - 100) p q) = u → OwnPs (wr.setCell ⟨g, us.length, none⟩ u) w.heap.size (.slice (some ⟨g, 0, none⟩) (us.length + 1) cv) (us ++ [.ifs (nth l k - 100) p q])) := fun u hu => by
                  subst hu; exact OwnPs.put (vs := [q]) HO.out _
                obtain ⟨tp, up, ep⟩ := pv_held p
                obtain ⟨tq, uq, eq⟩ := pv_held q
                have hv : Hid (pv (.ifs (nth l k - 100) p q) = .iface 77 (.agg #[.int .i64 (nth l k - 100), .iface tp up, .iface tq uq])) := by unfold Hid; rw [pv, ep, eq]
                rw [ep] at d0
                rw [eq] at d1
                rw [hq] at hcap hm ⊢
                have hm2 : us.length + 2 ≤ 16 := by omega
                clear hbad hone h2 ht hhead hq HS hs
                have e1 : (nth l k == 15) = false := by simp; omega
                have e2 : inB (nth l k) 16 18 = false := by simp [inB]; omega
                have e3 : (nth l k == 30) = false := by simp [c2]
                have h4 : 100 ≤ nth l k := c3.1
                have h5 : nth l k ≤ 115 := c3.2
                generalize nth l k = x at *
                generalize us.length = m at *
                have hw0 : IntKind.i64.wrap (m : Int) = (m : Int) := IntWalk.i64_in _ (by omega)
                have hw1 : IntKind.i64.wrap ((m : Int) + 2 - 1) = (m : Int) + 1 := by rw [IntWalk.i64_in _ (by omega)]; omega
                have hl0 : (m : Int) < (m : Int) + 2 := by omega
                have hl1 : (m : Int) + 1 < (m : Int) + 2 := by omega
                have hl2 : 0 ≤ (m : Int) + 1 := by omega
                have hmc : (m : Int) ≤ cv := by omega
                have hmc1 : m + 1 ≤ cv := by omega
                have hm1 : ((m : Int) + 1).toNat = m + 1 := by omega
                go_wp2_with (first | (go_at_call 55; refine (isAct_c _ _).mono ?_; rintro e w' ⟨rfl, rfl⟩) | fail)
                go_region
                go_wp2
                go_roundw
                case rel => exact Lib.hid ⟨k + 1, _, by omega, by go_num, hS.out, (hT.out _ hv.out).ext (by (repeat (first | exact Ext.refl _ | assumption | refine Ext.alloc ?_ _ | refine Ext.drewN ?_ _ | refine Ext.drew ?_))), (Ext.setCell HX.out hBg _).trans (by (repeat (first | exact Ext.refl _ | assumption | refine Ext.alloc ?_ _ | refine Ext.drewN ?_ _ | refine Ext.drew ?_)))⟩
                case measure => simp [intOf]; omega
              · have hB := Lib.hid (hbad.out (.inr (by rw [ht.out, if_neg n1, if_pos (.inr c3)]; omega)))
                clear hbad hone ht hhead HS hs
                have e1 : (nth l k == 15) = false := by simp; omega
                have e2 : inB (nth l k) 16 18 = false := by simp [inB]; omega
                have e3 : (nth l k == 30) = false := by simp [c2]
                have h4 : 100 ≤ nth l k := c3.1
                have h5 : nth l k ≤ 115 := c3.2
                have h3 : ¬ 2 ≤ (ts.length : Int) := by omega
                have h6 : ¬ 200 ≤ nth l k := by omega
                generalize nth l k = x at *
                generalize ts.length = m at *
                go_wp2_with (first | (go_at_call 55; refine (isAct_c _ _).mono ?_; rintro e w' ⟨rfl, rfl⟩) | fail)
                all_goals (go_ret; exact RetP.nil hB.out (HX.out.trans (by (repeat (first | exact Ext.refl _ | assumption | refine Ext.alloc ?_ _ | refine Ext.drewN ?_ _ | refine Ext.drew ?_)))))
            · by_cases c4 : 200 ≤ nth l k ∧ nth l k ≤ 215
              · by_cases h2 : 1 ≤ ts.length
                · obtain ⟨us, p, rfl⟩ := split1 h2
                  have hS := Lib.hid (hs.loop hlt c4)
                  have hq : (us ++ [p]).length = us.length + 1 := by simp
                  obtain ⟨g, rfl, hBg, hgs⟩ := hhead (by omega)
                  have d0 := HO.out.cell us.length p (by simp)
                  have hfz := HO.out.frz us.length
                  have hT : Hid (∀ u, pv (.loop (nth l k - 200) p) = u → OwnPs (wr.setCell ⟨g, us.length, none⟩ u) w.heap.size (.slice (some ⟨g, 0, none⟩) (us.length + 1) cv) (us ++ [.loop (nth l k - 200) p])) := fun u hu => by
                    subst hu; exact OwnPs.put (vs := []) HO.out _
                  obtain ⟨tp, up, ep⟩ := pv_held p
                  have hv : Hid (pv (.loop (nth l k - 200) p) = .iface 79 (.agg #[.int .i64 (nth l k - 200), .iface tp up])) := by unfold Hid; rw [pv, ep]
                  rw [ep] at d0
                  rw [hq] at hcap hm ⊢
                  have hm2 : us.length + 1 ≤ 16 := by omega
                  clear hbad hone h2 ht hhead hq HS hs
                  have e1 : (nth l k == 15) = false := by simp; omega
                  have e2 : inB (nth l k) 16 18 = false := by simp [inB]; omega
                  have e3 : (nth l k == 30) = false := by simp [c2]
                  have h4 : 100 ≤ nth l k := by omega
                  have h5 : ¬ nth l k ≤ 115 := by omega
                  have h6 : 200 ≤ nth l k := c4.1
                  have h7 : nth l k ≤ 215 := c4.2
                  generalize nth l k = x at *
                  generalize us.length = m at *
                  have hw0 : IntKind.i64.wrap ((m : Int) + 1 - 1) = (m : Int) := by rw [IntWalk.i64_in _ (by omega)]; omega
                  have hl0 : (m : Int) < (m : Int) + 1 := by omega
                  have hmc : (m : Int) ≤ cv := by omega
                  have hmc1 : m + 1 ≤ cv := by omega
                  go_wp2_with (first | (go_at_call 55; refine (isAct_c _ _).mono ?_; rintro e w' ⟨rfl, rfl⟩) | fail)
                  go_region
                  go_wp2
                  go_roundw
                  case rel => exact Lib.hid ⟨k + 1, _, by omega, by go_num, hS.out, (hT.out _ hv.out).ext (by (repeat (first | exact Ext.refl _ | assumption | refine Ext.alloc ?_ _ | refine Ext.drewN ?_ _ | refine Ext.drew ?_))), (Ext.setCell HX.out hBg _).trans (by (repeat (first | exact Ext.refl _ | assumption | refine Ext.alloc ?_ _ | refine Ext.drewN ?_ _ | refine Ext.drew ?_)))⟩
                  case measure => simp [intOf]; omega
                · have hB := Lib.hid (hbad.out (.inr (by rw [ht.out, if_neg n1, if_neg (by omega), if_pos c4]; omega)))
                  clear hbad hone ht hhead HS hs
                  have e1 : (nth l k == 15) = false := by simp; omega
                  have e2 : inB (nth l k) 16 18 = false := by simp [inB]; omega
                  have e3 : (nth l k == 30) = false := by simp [c2]
                  have h4 : 100 ≤ nth l k := by omega
                  have h5 : ¬ nth l k ≤ 115 := by omega
                  have h6 : 200 ≤ nth l k := c4.1
                  have h7 : nth l k ≤ 215 := c4.2
                  have h3 : ¬ 1 ≤ (ts.length : Int) := by omega
                  generalize nth l k = x at *
                  generalize ts.length = m at *
                  go_wp2_with (first | (go_at_call 55; refine (isAct_c _ _).mono ?_; rintro e w' ⟨rfl, rfl⟩) | fail)
                  all_goals (go_ret; exact RetP.nil hB.out (HX.out.trans (by (repeat (first | exact Ext.refl _ | assumption | refine Ext.alloc ?_ _ | refine Ext.drewN ?_ _ | refine Ext.drew ?_)))))
              · have hB := Lib.hid (hbad.out (.inl (by rw [ht.out, if_neg n1, if_neg (by omega), if_neg c4]; decide)))
                clear hbad hone ht hhead HS hs
                have e1 : (nth l k == 15) = false := by simp; omega
                have e2 : inB (nth l k) 16 18 = false := by simp [inB]; omega
                have e3 : (nth l k == 30) = false := by simp [c2]
                generalize nth l k = x at *
                generalize ts.length = m at *
                go_wp2_with (first | (go_at_call 55; refine (isAct_c _ _).mono ?_; rintro e w' ⟨rfl, rfl⟩) | fail)
                all_goals (go_ret; exact RetP.nil hB.out (HX.out.trans (by (repeat (first | exact Ext.refl _ | assumption | refine Ext.alloc ?_ _ | refine Ext.drewN ?_ _ | refine Ext.drew ?_)))))
      · obtain rfl : k = l.length := by omega
        have HO := Lib.hid ho
        have HX := Lib.hid hx
        by_cases h1 : ts.length = 1
        · obtain ⟨us, p, rfl⟩ := split1 (show 1 ≤ ts.length by omega)
          obtain rfl : us = [] := List.eq_nil_of_length_eq_zero (by have h2 := h1; simp only [List.length_append, List.length_cons, List.length_nil] at h2; omega)
          obtain ⟨g, rfl, hBg, hgs⟩ := hhead (by omega)
          have hD := Lib.hid (hs.done HN.out)
          have d0 := HO.out.cell 0 p rfl
          clear hs hhead ho hx
          go_wp2
          go_ret
          exact ⟨⟨_, rfl, .inl ⟨hD.out.1, p, hD.out.2.1, hD.out.2.2, rfl⟩⟩, HX.out.trans (by (repeat (first | exact Ext.refl _ | assumption | refine Ext.alloc ?_ _ | refine Ext.drewN ?_ _ | refine Ext.drew ?_)))⟩
        · have hB := Lib.hid (hs.not HN.out h1)
          have h2 : ((ts.length : Int) == 1) = false := by simp; omega
          clear hs hhead ho hx
          generalize ts.length = m at *
          go_wp2
          go_ret
          exact RetP.nil hB.out (HX.out.trans (by (repeat (first | exact Ext.refl _ | assumption | refine Ext.alloc ?_ _ | refine Ext.drewN ?_ _ | refine Ext.drew ?_))))
  · have hv := Lib.hid (pvB_out hn)
    by_cases h1 : 1 ≤ l.length
    all_goals
      clear hl
      go_enter Try.func52, Try.ntmps52
      go_wp2
      go_ret
      exact RetP.nil hv.out (by (repeat (first | exact Ext.refl _ | assumption | refine Ext.alloc ?_ _ | refine Ext.drewN ?_ _ | refine Ext.drew ?_)))
end Go.Proofs.Ytnhdachenckceaa
