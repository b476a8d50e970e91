/- Merged texts: contracts and plain lemmas (Bd). -/
import Derived.Test.YtlaamecfknkmlaaGreatGu4
import Derived.Test.YtlaamecfknkmlaaGreatGu32
/- Contracts: the tree of an expression, built in memory. -/
namespace Go.Proofs.YtlaamecfknkmlaaGreat
set_option linter.unusedVariables false
open Go.RowKit Go.Kt

theorem infoTp : (Tryz.prog.info? 81).map (fun i => (i.zero, i.size, i.bytes)) = some (some (.pointer none), 1, 8) := by kernel_rfl
/-- What building a tree comes to. -/
def RetT (w : World) (t : Kt) (e : Ending) (w' : World) : Prop := ∃ g, e = .returned (.pointer (some ⟨g, 0, none⟩)) ∧ TreeAt w' (fun _ => False) t g ∧ Ext w w'
/-- The loop's relation. -/
def BuildSt (l : List Int) (w : World) (v i : Value) (wr : World) : Prop :=
  ∃ (k : Nat) (ts : List Kt) (gs : List Nat), k ≤ l.length ∧ i = .int .i64 k ∧ StkK l k ts ∧ StackT wr w.heap.size 81 v ts gs ∧ Ext w wr
set_option maxRecDepth 100000 in
set_option maxHeartbeats 2000000 in
theorem buildL_c (a : Option Addr) (cap : Nat) (l : List Int) (t : Kt) (w : World) (hl : IntsAt w a l) (hg : t.Good) (hw : t.words = l) (hv : KvL l) :
    Calls Tryz.prog 69 #[.slice a l.length cap] w (RetT w t) := by
  have hl1 := hv.1
  have hl40 := hv.2.1
  obtain ⟨b, off, h1, h2⟩ := hl
  obtain ⟨rfl, hb⟩ := h1 (by omega)
  have H2 := Lib.hid h2
  have HV := Lib.hid hv
  have HF : Hid (∀ ts, StkK l l.length ts → ts = [t]) := fun ts hs => by
    have h1 := hs.2.2
    rw [hv.2.2] at h1
    have h2 : ts.length = 1 := (Option.some.inj h1).symm
    obtain ⟨us, u, rfl⟩ := splitK1 (show 1 ≤ ts.length by omega)
    obtain rfl : us = [] := List.eq_nil_of_length_eq_zero (by simp only [List.length_append, List.length_cons, List.length_nil] at h2; omega)
    obtain ⟨hgu, hwu⟩ := hs.done
    have : u = t := Kt.words_inj hgu hg (hwu.trans hw.symm)
    rw [this]; rfl
  clear h1 h2 hg hw hv
  go_enter Tryz.func69, Tryz.ntmps69
  go_wp2
  go_loopw [3, 10] (fun v i wr => Hid (BuildSt l w v i wr)) (fun _ i _ => l.length - (intOf i).toNat)
  case atStart => exact Lib.hid ⟨0, [], [], Nat.zero_le _, rfl, StkK.start l, StackT.nil _ _ _, by (repeat (first | exact Ext.refl _ | assumption | refine Ext.alloc ?_ _ | refine Ext.drewN ?_ _ | refine Ext.drew ?_))⟩
  case round =>
    obtain ⟨k, ts, gs, hk, rfl, hs, ho, hx⟩ := hrel.out
    clear hrel
    have hz := hx.size
    have hm : ts.length ≤ k := mnyK_le hs.2.2
    have HO := Lib.hid ho
    have HX := Lib.hid hx
    have HS := Lib.hid hs
    by_cases hlt : k < l.length
    · have hc := hx.cell' (H2.out k hlt) hb
      have hn := HV.out.good hlt hs.2.2
      have hcall : Hid (∀ w0 : World, Calls Tryz.prog 126 #[.int .i64 (nth l k)] w0 fun e w' => e = .returned (.int .i64 (tkK (nth l k))) ∧ w0 = w') := fun w0 => takes_c _ w0
      rcases tkK_range (nth l k) with h0 | h0 | h0
      · have hS := Lib.hid (hs.leaf hlt hn h0)
        rw [h0] at hcall
        have hparts := ho.parts
        clear hs hn h0 HS ho hx
        obtain ⟨m, hme⟩ : ∃ m, m = ts.length := ⟨_, rfl⟩
        have HME := Lib.hid hme
        rw [← hme] at hparts hm
        clear hme
        have hwm : IntKind.i64.wrap ((m : Int) - 0) = (m : Int) := by rw [IntWalk.i64_in _ (by omega)]; omega
        generalize nth l k = x at *
        rcases hparts with ⟨rfl, rfl⟩ | ⟨r, cv, rfl, hcap, hBr, hr⟩
        · have HO1 := HO.out.1
          rw [← HME.out] at HO1
          have HO2 := Lib.hid HO1
          clear HO1
          go_wp2_with fail
          refine (hcall.out _).mono ?_
          rintro e w1 ⟨rfl, rfl⟩
          go_wp2_with (at_builtin; refine want_append_fresh (by rfl) _ _ _ rfl 81 (.pointer none) 8 Tryz.underlying118 infoTp rfl (by decide) rfl _ 0 _ [] rfl rfl (fun h => absurd h (by decide)) (fun u hu => by cases hu) (by omega) ?_)
          rintro v6 w6 - x6 e6
          obtain rfl := e6
          have X6 := Lib.hid x6
          clear x6
          go_wp2_with (at_builtin; refine want_append_at (by rfl) _ _ _ rfl w.heap.size 81 (.pointer none) 8 Tryz.underlying118 infoTp rfl (by decide) _ 0 (gs.map ptrV) rfl (own_ext HO2.out (X6.out.trans (by (repeat (first | exact Ext.refl _ | assumption | refine Ext.alloc ?_ _ | refine Ext.drewN ?_ _ | refine Ext.drew ?_))))) _ (ptrV w6.heap.size) rfl (by simp [go_sem, ptrV]) rfl (by omega) (by have := X6.out.size; simp; omega) ?_)
          intro v7 w7 o7 g7 wh7
          have hsT := Lib.hid (StackT.push (HO.out.ext (X6.out.trans (by (repeat (first | exact Ext.refl _ | assumption | refine Ext.alloc ?_ _ | refine Ext.drewN ?_ _ | refine Ext.drew ?_))))) g7 (by rw [← HME.out]; exact o7) (by simp only [World.size_alloc]; exact wh7) (HO.out.leaf X6.out x 120 81))
          have hx7 := Lib.hid (Ext.row (HX.out.trans (X6.out.trans (by (repeat (first | exact Ext.refl _ | assumption | refine Ext.alloc ?_ _ | refine Ext.drewN ?_ _ | refine Ext.drew ?_))))) g7 (fun k hk => (World.ownsRow.lt HO.out.1 k hk).1))
          clear o7 g7 wh7
          go_wp2
          go_roundw
          case rel => exact Lib.hid ⟨k + 1, _, _, by omega, by go_num, hS.out, hsT.out, hx7.out⟩
          case measure => simp [intOf]; omega
        · have HO1 := HO.out.1
          rw [← HME.out] at HO1
          have HO2 := Lib.hid HO1
          clear HO1
          by_cases hcm : cv = m
          all_goals
            try subst hcm
            go_wp2_with fail
            refine (hcall.out _).mono ?_
            rintro e w1 ⟨rfl, rfl⟩
            go_wp2_with (at_builtin; refine want_append_fresh (by rfl) _ _ _ rfl 81 (.pointer none) 8 Tryz.underlying118 infoTp rfl (by decide) rfl _ 0 _ [] rfl rfl (fun h => absurd h (by decide)) (fun u hu => by cases hu) (by omega) ?_)
            rintro v6 w6 - x6 e6
            obtain rfl := e6
            have X6 := Lib.hid x6
            clear x6
            go_wp2_with (at_builtin; refine want_append_at (by rfl) _ _ _ rfl w.heap.size 81 (.pointer none) 8 Tryz.underlying118 infoTp rfl (by decide) _ _ (gs.map ptrV) rfl (own_ext HO2.out (X6.out.trans (by (repeat (first | exact Ext.refl _ | assumption | refine Ext.alloc ?_ _ | refine Ext.drewN ?_ _ | refine Ext.drew ?_))))) _ (ptrV w6.heap.size) rfl (by simp [go_sem, ptrV]) rfl (by omega) (by have := X6.out.size; simp; omega) ?_)
            intro v7 w7 o7 g7 wh7
            have hsT := Lib.hid (StackT.push (HO.out.ext (X6.out.trans (by (repeat (first | exact Ext.refl _ | assumption | refine Ext.alloc ?_ _ | refine Ext.drewN ?_ _ | refine Ext.drew ?_))))) g7 (by rw [← HME.out]; exact o7) (by simp only [World.size_alloc]; exact wh7) (HO.out.leaf X6.out x 120 81))
            have hx7 := Lib.hid (Ext.row (HX.out.trans (X6.out.trans (by (repeat (first | exact Ext.refl _ | assumption | refine Ext.alloc ?_ _ | refine Ext.drewN ?_ _ | refine Ext.drew ?_))))) g7 (fun k hk => (World.ownsRow.lt HO.out.1 k hk).1))
            clear o7 g7 wh7
            go_wp2
            go_roundw
            case rel => exact Lib.hid ⟨k + 1, _, _, by omega, by go_num, hS.out, hsT.out, hx7.out⟩
            case measure => simp [intOf]; omega
      · obtain ⟨us, p, rfl⟩ := splitK1 (not_bad_one hn h0)
        have hS := Lib.hid (hs.star hlt hn h0)
        have e21 : nth l k = 21 := by rcases tkK_cases (nth l k) with h | h | h | h <;> omega
        rw [h0] at hcall
        rw [e21] at hcall hc
        rcases ho.parts with ⟨-, h0'⟩ | ⟨r, cv, rfl, hcap, hBr, hr⟩
        · simp at h0'
        have hq : (us ++ [p]).length = us.length + 1 := by simp
        obtain ⟨gp, hgp, d0⟩ := ho.cell us.length (by simp)
        have hfz := ho.frz us.length
        have hT := Lib.hid (ho.tree (i := us.length) (t := p) (by simp) hgp)
        clear hs hn h0 HS ho hx e21 hgp
        rw [hq] at hcap hm ⊢
        obtain ⟨m, hme⟩ : ∃ m, m = us.length := ⟨_, rfl⟩
        have HME := Lib.hid hme
        rw [← hme] at hcap hm d0 hfz ⊢
        clear hme hq
        have hsrc : Hid (∀ j u, ([ptrV gp] : List Value)[j]? = some u → wr.cell? ⟨r, m + j, none⟩ = some u) := fun j u hj => by
          match j, hj with
          | 0, hj => simp at hj; subst hj; exact d0
          | j + 1, hj => simp at hj
        have hwm : IntKind.i64.wrap ((m : Int) + 1 - 1) = (m : Int) := by rw [IntWalk.i64_in _ (by omega)]; omega
        have hmc : (m : Int) ≤ cv := by omega
        have hne : ¬ cv = m := by omega
        go_wp2_with fail
        refine (hcall.out _).mono ?_
        rintro e w1 ⟨rfl, rfl⟩
        go_wp2_with (at_builtin; refine want_append_fresh (by rfl) _ _ _ rfl 81 (.pointer none) 8 Tryz.underlying118 infoTp rfl (by decide) rfl _ 1 _ [ptrV gp] rfl rfl (fun _ => ⟨r, m, rfl, hsrc.out⟩) (fun u hu => by simp at hu; subst hu; rfl) (by omega) ?_)
        rintro v6 w6 o6 x6
        obtain ⟨a6, c6, rfl⟩ := own_shapev o6
        obtain ⟨h6, rfl, hB6, hr6⟩ := own_headv o6 (by decide)
        have k6 := Lib.hid ((World.ownsRow.cellAt o6 0 (by decide)).trans (rfl : ([ptrV gp] : List Value)[0]? = some (ptrV gp)))
        have d6 := x6.cell' d0 hr
        have f6 := (x6.frozen (p := ⟨r, m, none⟩) hr).trans hfz
        have hT6 := Lib.hid (hT.out.ext x6)
        have X6 := Lib.hid x6
        have z6 : r < w6.heap.size := Nat.lt_of_lt_of_le hr x6.size
        have hne6 : h6 ≠ r := by omega
        have hN := Lib.hid (TreeAt.mkStar (c := c6) k6.out hne6 hT6.out z6 120 (.cells #[.pointer (some ⟨w6.heap.size, 0, none⟩)] 81))
        clear o6 x6 hfz d0
        go_wp2
        go_roundw
        case rel =>
          have hme := HME.out
          subst hme
          exact Lib.hid ⟨k + 1, us ++ [.star p], gs.take us.length ++ [w6.heap.size], by omega, by go_num, hS.out, StackT.put' (vs := []) (HO.out.ext (X6.out.trans (by (repeat (first | exact Ext.refl _ | assumption | refine Ext.alloc ?_ _ | refine Ext.drewN ?_ _ | refine Ext.drew ?_))))) z6 hN.out, Ext.trans (Ext.setCell (HX.out.trans X6.out) (p := ⟨r, us.length, none⟩) hBr _) (by (repeat (first | exact Ext.refl _ | assumption | refine Ext.alloc ?_ _ | refine Ext.drewN ?_ _ | refine Ext.drew ?_)))⟩
        case measure => simp [intOf]; omega
      · obtain ⟨us, p, q, rfl⟩ := splitK2 (not_bad_two hn h0)
        have hS := Lib.hid (hs.two hlt hn h0)
        rw [h0] at hcall
        rcases ho.parts with ⟨-, h0'⟩ | ⟨r, cv, rfl, hcap, hBr, hr⟩
        · simp at h0'
        have hq : (us ++ [p, q]).length = us.length + 2 := by simp
        obtain ⟨gp, hgp, d0⟩ := ho.cell us.length (by simp)
        obtain ⟨gq, hgq, d1⟩ := ho.cell (us.length + 1) (by simp)
        have hfz := ho.frz us.length
        have hT := Lib.hid (ho.tree (i := us.length) (t := p) (by simp) hgp)
        have hU := Lib.hid (ho.tree (i := us.length + 1) (t := q) (by simp) hgq)
        clear hs hn h0 HS ho hx hgp hgq
        rw [hq] at hcap hm ⊢
        obtain ⟨m, hme⟩ : ∃ m, m = us.length := ⟨_, rfl⟩
        have HME := Lib.hid hme
        rw [← hme] at hcap hm d0 d1 hfz ⊢
        clear hme hq
        have hsrc : Hid (∀ j u, ([ptrV gp, ptrV gq] : List Value)[j]? = some u → wr.cell? ⟨r, m + j, none⟩ = some u) := fun j u hj => by
          match j, hj with
          | 0, hj => simp at hj; subst hj; exact d0
          | 1, hj => simp at hj; subst hj; exact d1
          | j + 2, hj => simp at hj
        have hwm : IntKind.i64.wrap ((m : Int) + 2 - 2) = (m : Int) := by rw [IntWalk.i64_in _ (by omega)]; omega
        have hmc : (m : Int) ≤ cv := by omega
        have hne : ¬ cv = m := by omega
        generalize nth l k = x at *
        go_wp2_with fail
        refine (hcall.out _).mono ?_
        rintro e w1 ⟨rfl, rfl⟩
        go_wp2_with (at_builtin; refine want_append_fresh (by rfl) _ _ _ rfl 81 (.pointer none) 8 Tryz.underlying118 infoTp rfl (by decide) rfl _ 2 _ [ptrV gp, ptrV gq] rfl rfl (fun _ => ⟨r, m, rfl, hsrc.out⟩) (fun u hu => by simp at hu; rcases hu with rfl | rfl <;> rfl) (by omega) ?_)
        rintro v6 w6 o6 x6
        obtain ⟨a6, c6, rfl⟩ := own_shapev o6
        obtain ⟨h6, rfl, hB6, hr6⟩ := own_headv o6 (by decide)
        have k6 := Lib.hid ((World.ownsRow.cellAt o6 0 (by decide)).trans (rfl : ([ptrV gp, ptrV gq] : List Value)[0]? = some (ptrV gp)))
        have j6 := Lib.hid ((World.ownsRow.cellAt o6 1 (by decide)).trans (rfl : ([ptrV gp, ptrV gq] : List Value)[1]? = some (ptrV gq)))
        have d6 := x6.cell' d0 hr
        have f6 := (x6.frozen (p := ⟨r, m, none⟩) hr).trans hfz
        have hT6 := Lib.hid (hT.out.ext x6)
        have hU6 := Lib.hid (hU.out.ext x6)
        have X6 := Lib.hid x6
        have z6 : r < w6.heap.size := Nat.lt_of_lt_of_le hr x6.size
        have hne6 : h6 ≠ r := by omega
        have hN := Lib.hid (TreeAt.mkTwo (c := c6) (s := x) k6.out j6.out hne6 hT6.out hU6.out z6 120 (.cells #[.pointer (some ⟨w6.heap.size, 0, none⟩)] 81))
        clear o6 x6 hfz d0 d1
        go_wp2
        go_roundw
        case rel =>
          have hme := HME.out
          subst hme
          exact Lib.hid ⟨k + 1, us ++ [.two x p q], gs.take us.length ++ [w6.heap.size], by omega, by go_num, hS.out, StackT.put' (vs := [q]) (HO.out.ext (X6.out.trans (by (repeat (first | exact Ext.refl _ | assumption | refine Ext.alloc ?_ _ | refine Ext.drewN ?_ _ | refine Ext.drew ?_))))) z6 hN.out, Ext.trans (Ext.setCell (HX.out.trans X6.out) (p := ⟨r, us.length, none⟩) hBr _) (by (repeat (first | exact Ext.refl _ | assumption | refine Ext.alloc ?_ _ | refine Ext.drewN ?_ _ | refine Ext.drew ?_)))⟩
        case measure => simp [intOf]; omega
    · obtain rfl : k = l.length := by omega
      obtain rfl := HF.out ts hs
      rcases ho.parts with ⟨-, h0⟩ | ⟨r, cv, rfl, hcap, hBr, hr⟩
      · cases h0
      obtain ⟨g, hg, hc⟩ := ho.cell 0 (by simp)
      have ht := Lib.hid ((ho.tree (i := 0) rfl hg).free)
      clear ho hx hs HS
      have hc : wr.cell? ⟨r, 0, none⟩ = some (.pointer (some ⟨g, 0, none⟩)) := hc
      have hl1 : ([t] : List Kt).length = 1 := rfl
      rw [hl1]
      go_wp2
      go_ret
      exact ⟨g, rfl, ht.out.ext (by (repeat (first | exact Ext.refl _ | assumption | refine Ext.alloc ?_ _ | refine Ext.drewN ?_ _ | refine Ext.drew ?_))), HX.out.trans (by (repeat (first | exact Ext.refl _ | assumption | refine Ext.alloc ?_ _ | refine Ext.drewN ?_ _ | refine Ext.drew ?_)))⟩
theorem build_c (a : Option Addr) (cap : Nat) (l : List Int) (t : Kt) (w : World) (hl : IntsAt w a l) (hg : t.Good) (hw : t.words = l) (hv : kvB l = true) :
    Calls Tryz.prog 69 #[.slice a l.length cap] w (RetT w t) := buildL_c a cap l t w hl hg hw (KvL.of hv)
end Go.Proofs.YtlaamecfknkmlaaGreat
