/- Contracts: KatStar on any list, on both sides; how many actions; the draw of KatStar. -/
import Derived.Test.YtcjnihhinnedkaaDoorKd
import Derived.Test.YtcjnihhinnedkaaDoorTk
import Derived.Test.YtcjnihhinnedkaaDoorPq
namespace Go.Kt
/-- Which steps are actions. -/
def actN (l : List Int) : Nat → Nat
  | 0 => 0
  | k + 1 => actN l k + (if 16 ≤ nth l k ∧ nth l k ≤ 18 then 1 else 0)
theorem actN_le (l : List Int) : ∀ k, actN l k ≤ k
  | 0 => Nat.le_refl _
  | k + 1 => by have := actN_le l k; simp only [actN]; split <;> omega
theorem actN_pre (l m : List Int) : ∀ k, k ≤ l.length → actN (l ++ m) k = actN l k
  | 0, _ => rfl
  | k + 1, h => by
    have e : nth (l ++ m) k = nth l k := by
      unfold nth; rw [List.getD_eq_getElem?_getD, List.getD_eq_getElem?_getD, List.getElem?_append_left (by omega)]
    simp only [actN, e, actN_pre l m k (by omega)]
theorem actN_star (l : List Int) : actN (l ++ [21]) (l ++ [21]).length = actN l l.length := by
  have e : nth (l ++ [21]) l.length = 21 := by
    unfold nth; rw [List.getD_eq_getElem?_getD, List.getElem?_append_right (by omega)]; simp
  have e2 : (l ++ [21]).length = l.length + 1 := by simp
  rw [e2]
  simp only [actN, e, actN_pre l [21] l.length (Nat.le_refl _)]
  rfl
def actI (l : List Int) : Int := if kvB l then (actN l l.length : Nat) else -1
end Go.Kt
namespace Go.Proofs.YtcjnihhinnedkaaDoor
set_option linter.unusedVariables false
open Go.RowKit Go.Kt

theorem kvB_star {l : List Int} (h : kvB l = true) : kvB (l ++ [21]) = decide (l.length + 1 ≤ 40) := by
  obtain ⟨t, hg, rfl⟩ := kvB_tree h
  by_cases h4 : t.words.length + 1 ≤ 40
  · rw [decide_eq_true h4]
    exact kvB_words_true (t := .star t) hg (by simp [Kt.words]; omega)
  · rw [decide_eq_false h4]
    exact kvB_out (by simp; omega)
set_option maxHeartbeats 1000000 in
theorem sKatStar_c (a : Option Addr) (ca : Nat) (la : List Int) (w : World) (ha : IntsAt w a la) (hla : la.length ≤ 1048576) :
    Calls Tryd.prog 12 #[.slice a la.length ca] w (RetV w (kvB la && kvB (la ++ [21])) (la ++ [21])) := by
  have HA := Lib.hid ha
  clear ha
  cases ka : kvB la
  all_goals cases kl : kvB (la ++ [21])
  all_goals
    have KA := Lib.hid ka
    have KL := Lib.hid kl
    clear ka kl
    go_enter Tryd.func12, Tryd.ntmps12
    go_wp2_with (at_builtin; refine any_append_ints (by rfl) _ _ _ rfl (w.heap.size) 3 Tryd.underlying22 infoInt _ ([]) rfl (by first | exact OwnI.empty _ _ | exact (OwnI.empty _ _).ext (by (repeat (first | exact Ext.refl _ | assumption | refine Ext.alloc ?_ _ | refine Ext.drewN ?_ _ | refine Ext.drew ?_)))) _ _ (la) rfl (HA.out.ext (by (repeat (first | exact Ext.refl _ | assumption | refine Ext.alloc ?_ _ | refine Ext.drewN ?_ _ | refine Ext.drew ?_)))) (by first | omega | (simp; omega)) (by first | omega | (simp; done) | (simp; omega)) ?_)
    intro v1 w1 o1 g1
    have hx1 := Lib.hid (Ext.rowOf (w0 := w) (show Ext w _ by (repeat (first | exact Ext.refl _ | assumption | refine Ext.alloc ?_ _ | refine Ext.drewN ?_ _ | refine Ext.drew ?_))) g1 (Nat.le_refl _))
    obtain ⟨a1, c1, rfl, -⟩ := o1.shape
    have O1 := Lib.hid o1
    have hz1 := hx1.out.size
    clear o1 g1
    go_wp2_with (at_builtin; refine any_append_ints (by rfl) _ _ _ rfl (w.heap.size) 3 Tryd.underlying22 infoInt _ (_) rfl (O1.out.ext (by (repeat (first | exact Ext.refl _ | assumption | refine Ext.alloc ?_ _ | refine Ext.drewN ?_ _ | refine Ext.drew ?_)))) _ _ ([21]) rfl (by first | exact (OwnI.lit1 _ _ _ _ (Nat.le_refl _)).ints | exact ((OwnI.lit1 _ _ _ _ (Nat.le_refl _)).ints).ext (by (repeat (first | exact Ext.refl _ | assumption | refine Ext.alloc ?_ _ | refine Ext.drewN ?_ _ | refine Ext.drew ?_)))) (by first | omega | (simp; omega)) (by first | omega | (simp; done) | (simp; omega)) ?_)
    intro v3 w3 o3 g3
    have hx3 := Lib.hid (Ext.row (hx1.out.trans (by (repeat (first | exact Ext.refl _ | assumption | refine Ext.alloc ?_ _ | refine Ext.drewN ?_ _ | refine Ext.drew ?_)))) g3 (fun k hk => (World.ownsRow.lt O1.out k hk).1))
    obtain ⟨L, hL, hll⟩ := named (la ++ [21])
    rw [← hL.out] at o3 KL
    obtain ⟨a3, c3, rfl, i3⟩ := o3.shape
    have O3 := Lib.hid (o3.mono (B' := w.heap.size) (by first | exact Nat.le_refl _ | (simp; done) | (simp; omega)))
    have I3 := Lib.hid i3
    have hL2 : L.length ≤ 4194304 := by rw [hll]; simp; omega
    have hz := hx3.out.size
    clear o3 g3 i3 hll
    go_wp2_with (first
      | (go_at_call 19; with_reducible refine (sKatValid_c a ca la _ (HA.out.ext hx3.out) (by omega)).mono ?_; rw [KA.out]; rintro e w' ⟨rfl, rfl⟩)
      | (go_at_call 19; with_reducible refine (sKatValid_c a3 c3 L _ I3.out hL2).mono ?_; rw [KL.out]; rintro e w' ⟨rfl, rfl⟩))
    go_ret2
    first
      | exact RetV.yes rfl (by rw [← hL.out]; exact O3.out) hx3.out
      | exact RetV.no rfl ((OwnI.empty _ _).mono hz) (hx3.out.trans (by (repeat (first | exact Ext.refl _ | assumption | refine Ext.alloc ?_ _ | refine Ext.drewN ?_ _ | refine Ext.drew ?_))))
set_option maxHeartbeats 1000000 in
theorem joined1_c (B : Nat) (a : Option Addr) (ca : Nat) (la : List Int) (w : World) (hc : w.cell? ⟨B, 0, none⟩ = some (.slice a la.length ca)) (ha : IntsAt w a la) (hla : la.length ≤ 1048576) :
    Calls Tryd.prog 25 #[.int .i64 21, .slice (some ⟨B, 0, none⟩) 1 1] w (RetV w (kvB la && kvB (la ++ [21])) (la ++ [21])) := by
  have HA := Lib.hid ha
  have HC := Lib.hid hc
  have zb := lt_of_cell hc
  clear ha
  cases ka : kvB la
  · have KA := Lib.hid ka
    clear ka
    go_enter Tryd.func25, Tryd.ntmps25
    go_wp2
    go_loopw [6, 11] (fun v i wr => Hid (v = .slice none 0 0 ∧ i = .int .i64 0 ∧ w = wr)) (fun _ i _ => 1 - (intOf i).toNat)
    case atStart => exact Lib.hid ⟨rfl, rfl, rfl⟩
    case round =>
      obtain ⟨rfl, rfl, rfl⟩ := hrel.out
      clear hrel
      go_wp2_with (go_at_call 15; refine (iKatValid_c a ca la _ HA.out (by omega)).mono ?_; rw [KA.out]; rintro e w' ⟨rfl, rfl⟩)
      go_ret2
      exact ⟨_, rfl, OwnI.nil _ _ _, Ext.refl _⟩
  · have hstar := Lib.hid (kvB_star ka)
    have KA := Lib.hid ka
    clear ka
    go_enter Tryd.func25, Tryd.ntmps25
    go_wp2
    go_loopw [6, 11] (fun v i wr => Hid ((v = .slice none 0 0 ∧ i = .int .i64 0 ∧ w = wr) ∨ (i = .int .i64 1 ∧ OwnI wr w.heap.size 3 v la ∧ Ext w wr))) (fun _ i _ => 1 - (intOf i).toNat)
    case atStart => exact Lib.hid (.inl ⟨rfl, rfl, rfl⟩)
    case round =>
      rcases hrel.out with ⟨rfl, rfl, rfl⟩ | ⟨rfl, ho, hx⟩
      · clear hrel
        go_wp2_with fail
        refine (iKatValid_c a ca la _ HA.out (by omega)).mono ?_
        rw [KA.out]
        rintro e w' ⟨rfl, rfl⟩
        go_wp2_with (at_builtin; refine any_append_ints (by rfl) _ _ _ rfl (w.heap.size) 3 Tryd.underlying22 infoInt _ ([]) rfl (OwnI.nil _ _ _) _ _ (la) rfl (HA.out.ext (by (repeat (first | exact Ext.refl _ | assumption | refine Ext.alloc ?_ _ | refine Ext.drewN ?_ _ | refine Ext.drew ?_)))) (by first | omega | (simp; omega)) (by first | omega | (simp; done) | (simp; omega)) ?_)
        intro v2 w2 o2 g2
        have hx2 := Lib.hid (Ext.row (Ext.refl _) g2 (fun k hk => by cases hk))
        have O2 := Lib.hid o2
        clear o2 g2
        go_wp2
        go_roundw
        case rel => exact Lib.hid (.inr ⟨rfl, O2.out, hx2.out⟩)
        case measure => simp [intOf]
      · clear hrel
        obtain ⟨av, cv, rfl, -⟩ := ho.shape
        have HO := Lib.hid ho
        have HX := Lib.hid hx
        have hz := hx.size
        clear ho hx
        go_wp2_with (at_builtin; refine any_append_ints (by rfl) _ _ _ rfl (w.heap.size) 3 Tryd.underlying22 infoInt _ (_) rfl (HO.out.ext (by (repeat (first | exact Ext.refl _ | assumption | refine Ext.alloc ?_ _ | refine Ext.drewN ?_ _ | refine Ext.drew ?_)))) _ _ ([21]) rfl (by first | exact (OwnI.lit1 _ _ _ _ (Nat.le_refl _)).ints | exact ((OwnI.lit1 _ _ _ _ (Nat.le_refl _)).ints).ext (by (repeat (first | exact Ext.refl _ | assumption | refine Ext.alloc ?_ _ | refine Ext.drewN ?_ _ | refine Ext.drew ?_)))) (by first | omega | (simp; omega)) (by first | omega | (simp; done) | (simp; omega)) ?_)
        intro v2 w2 o2 g2
        have hx2 := Lib.hid (Ext.row (HX.out.trans (by (repeat (first | exact Ext.refl _ | assumption | refine Ext.alloc ?_ _ | refine Ext.drewN ?_ _ | refine Ext.drew ?_)))) g2 (fun k hk => (World.ownsRow.lt HO.out k hk).1))
        obtain ⟨M, hM, hll⟩ := named (la ++ [21])
        rw [← hM.out] at o2
        have hll' : M.length = la.length + 1 := by rw [hll]; simp
        obtain ⟨a2, c2, rfl, -⟩ := o2.shape
        have O2 := Lib.hid o2
        clear o2 g2 hll
        by_cases hf : la.length + 1 ≤ 40
        · have hs := Lib.hid (hstar.out.trans (decide_eq_true hf))
          have hm : M.length ≤ 40 := by omega
          clear hstar hll' hf
          go_wp2
          go_ret2
          rw [hs.out]
          exact RetV.yes rfl (by rw [← hM.out]; exact O2.out.ext (by (repeat (first | exact Ext.refl _ | assumption | refine Ext.alloc ?_ _ | refine Ext.drewN ?_ _ | refine Ext.drew ?_)))) (hx2.out.trans (by (repeat (first | exact Ext.refl _ | assumption | refine Ext.alloc ?_ _ | refine Ext.drewN ?_ _ | refine Ext.drew ?_))))
        · have hs := Lib.hid (hstar.out.trans (decide_eq_false hf))
          have hm : 40 < M.length := by omega
          have hm2 : M.length ≤ 2000000 := by omega
          clear hstar hll' hf
          go_wp2
          go_ret2
          rw [hs.out]
          exact RetV.no rfl (OwnI.nil _ _ _) (hx2.out.trans (by (repeat (first | exact Ext.refl _ | assumption | refine Ext.alloc ?_ _ | refine Ext.drewN ?_ _ | refine Ext.drew ?_))))
set_option maxHeartbeats 1000000 in
theorem iKatStar_c (a : Option Addr) (ca : Nat) (la : List Int) (w : World) (ha : IntsAt w a la) (hla : la.length ≤ 1048576) :
    Calls Tryd.prog 11 #[.slice a la.length ca] w (RetV w (kvB la && kvB (la ++ [21])) (la ++ [21])) := by
  have HC : Hid (∀ w', Ext (w.alloc (.cells #[.slice a la.length ca] 22)) w' → Calls Tryd.prog 25 #[.int .i64 21, .slice (some ⟨w.heap.size, 0, none⟩) 1 1] w' (RetV w' (kvB la && kvB (la ++ [21])) (la ++ [21]))) := fun w' hx =>
    joined1_c w.heap.size a ca la w' (hx.cell' (by simp [go_sem]) (by simp)) (ha.ext (((Ext.refl w).alloc _).trans hx)) hla
  clear ha
  go_enter Tryd.func11, Tryd.ntmps11
  go_wp2_with fail
  refine (HC.out _ (by (repeat (first | exact Ext.refl _ | assumption | refine Ext.alloc ?_ _ | refine Ext.drewN ?_ _ | refine Ext.drew ?_)))).mono ?_
  rintro e w1 ⟨v1, rfl, o1, y⟩
  have hx1 := Lib.hid (Ext.trans (show Ext w _ by (repeat (first | exact Ext.refl _ | assumption | refine Ext.alloc ?_ _ | refine Ext.drewN ?_ _ | refine Ext.drew ?_))) y)
  have O1 := Lib.hid (o1.mono (B' := w.heap.size) (by simp))
  clear o1 y HC
  go_wp2
  go_ret2
  exact ⟨_, rfl, O1.out.ext (by (repeat (first | exact Ext.refl _ | assumption | refine Ext.alloc ?_ _ | refine Ext.drewN ?_ _ | refine Ext.drew ?_))), hx1.out.trans (by (repeat (first | exact Ext.refl _ | assumption | refine Ext.alloc ?_ _ | refine Ext.drewN ?_ _ | refine Ext.drew ?_)))⟩
theorem iKatActs_c (a : Option Addr) (cap : Nat) (l : List Int) (w : World) (hl : IntsAt w a l) (hlen : l.length ≤ 4194304) :
    Calls Tryd.prog 16 #[.slice a l.length cap] w fun e w' => e = .returned (.int .i64 (actI l)) ∧ w = w' := by
  have HL := Lib.hid hl
  cases hv : kvB l
  · have HF : Hid (actI l = -1) := by unfold Hid actI; rw [hv]; rfl
    clear hl
    go_enter Tryd.func16, Tryd.ntmps16
    go_wp2_with fail
    refine (iKatValid_c a cap l _ HL.out (by omega)).mono ?_
    rw [hv]
    rintro e w1 ⟨rfl, rfl⟩
    go_wp2
    go_ret
    exact ⟨by rw [HF.out]; rfl, rfl⟩
  · have HF : Hid (actI l = (actN l l.length : Nat)) := by unfold Hid actI; rw [hv]; rfl
    have h40 := kvB_len hv
    obtain ⟨b, off, h1, h2⟩ := hl
    obtain ⟨rfl, hb⟩ := h1 (by omega)
    have H2 := Lib.hid h2
    have HV := Lib.hid hv
    have HLe : Hid (∀ k, actN l k ≤ k) := actN_le l
    have HS : Hid (∀ k, actN l (k + 1) = actN l k + (if 16 ≤ nth l k ∧ nth l k ≤ 18 then 1 else 0)) := fun k => rfl
    clear h1 h2 hv
    go_enter Tryd.func16, Tryd.ntmps16
    go_wp2_with fail
    refine (iKatValid_c _ cap l _ HL.out (by omega)).mono ?_
    rw [HV.out]
    rintro e w1 ⟨rfl, rfl⟩
    go_wp2
    go_loop [3, 11] (fun n i => Hid (∃ k : Nat, k ≤ l.length ∧ i = .int .i64 k ∧ n = .int .i64 (actN l k : Nat))) (fun _ i => l.length - (intOf i).toNat)
    case atStart => exact Lib.hid ⟨0, Nat.zero_le _, rfl, rfl⟩
    case round =>
      obtain ⟨k, hk, rfl, rfl⟩ := hrel.out
      clear hrel
      have hle := HLe.out k
      have hst := HS.out k
      by_cases hlt : k < l.length
      · have hc := H2.out k hlt
        generalize nth l k = x at *
        by_cases hp : 16 ≤ x ∧ x ≤ 18
        · have hact : inB x 16 18 = true := by simp [inB]; omega
          rw [if_pos hp] at hst
          have HT := Lib.hid hst
          clear hp hst
          go_wp2_with fail
          refine (isActT_c _ _).mono ?_
          rw [hact]
          rintro e w1 ⟨rfl, rfl⟩
          go_wp2
          go_round
          case rel => exact Lib.hid ⟨k + 1, by omega, by go_num, by rw [HT.out]; go_num⟩
          case measure => simp [intOf]; omega
        · have hact : inB x 16 18 = false := by simp [inB]; omega
          rw [if_neg hp] at hst
          have HT := Lib.hid hst
          clear hp hst
          go_wp2_with fail
          refine (isActT_c _ _).mono ?_
          rw [hact]
          rintro e w1 ⟨rfl, rfl⟩
          go_wp2
          go_round
          case rel => exact Lib.hid ⟨k + 1, by omega, by go_num, by rw [HT.out]; rfl⟩
          case measure => simp [intOf]; omega
      · obtain rfl : k = l.length := by omega
        clear hst
        go_wp2
        go_ret
        exact ⟨by rw [HF.out]; rfl, rfl⟩
/-- A drawn list of at most n steps. -/
def RetD (w : World) (n : Nat) (e : Ending) (w' : World) : Prop := ∃ v L, e = .returned v ∧ OwnI w' w.heap.size 3 v L ∧ L.length ≤ n ∧ Ext w w'
theorem drawKatStar_c (a : Option Addr) (cap : Nat) (l : List Int) (w : World) (h : BytesAt w a l) (hlen : l.length ≤ 1048576) (hcap : l.length ≤ cap) :
    Calls Tryd.prog 10 #[.slice a l.length cap] w (RetD w 41) := by
  go_enter Tryd.func10, Tryd.ntmps10
  go_wp2_with fail
  refine (l20Open_c a cap l _ (h.ext (by (repeat (first | exact Ext.refl _ | assumption | refine Ext.alloc ?_ _ | refine Ext.drewN ?_ _ | refine Ext.drew ?_)))) hlen hcap).mono ?_
  rintro e w1 ⟨g, rfl, hg, hr0, hx0⟩
  have hg1 := hr0.lt
  have hxw := Lib.hid (Ext.trans (show Ext w _ by (repeat (first | exact Ext.refl _ | assumption | refine Ext.alloc ?_ _ | refine Ext.drewN ?_ _ | refine Ext.drew ?_))) hx0)
  have hz0 := hx0.size
  go_wp2_with fail
  refine (l20Kat_c g 0 6 6 _ (hr0.ext (by (repeat (first | exact Ext.refl _ | assumption | refine Ext.alloc ?_ _ | refine Ext.drewN ?_ _ | refine Ext.drew ?_)))) (by omega) (by omega)).mono ?_
  rintro e w2 ⟨v3, L3, rfl, ho, hl, -, htc⟩
  have hx2 := Lib.hid (htc.ext hxw.out (by omega))
  clear htc
  go_wp2
  go_ret
  exact ⟨_, L3, rfl, ho.mono (by omega), hl, hx2.out⟩
end Go.Proofs.YtcjnihhinnedkaaDoor
