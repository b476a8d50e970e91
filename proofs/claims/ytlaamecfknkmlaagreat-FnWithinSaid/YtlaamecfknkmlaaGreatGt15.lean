/- Merged texts: contracts and plain lemmas (Qa, Jo). -/
import Derived.Test.YtlaamecfknkmlaaGreatGt2
import Derived.Test.YtlaamecfknkmlaaGreatGt3
import Derived.Test.YtlaamecfknkmlaaGreatGt1
namespace Go.Proofs.YtlaamecfknkmlaaGreat
set_option linter.unusedVariables false
open Go.RowKit Go.Kt

theorem allK_take {ks : List Kt} {k : Nat} (h : k < ks.length) : allK (ks.take (k + 1)) = allK (ks.take k) ++ (ks[k]).words := by
  rw [List.take_add_one, List.getElem?_eq_getElem h, allK_append]; simp [allK]
/-- Two slices of ints in a new block. -/
theorem rows_new2 {w : World} {a b : Option Addr} {la lb : List Int} (ca cb : Nat) (ha : IntsAt w a la) (hb : IntsAt w b lb) : RowsAt (w.alloc (.cells #[.slice a la.length ca, .slice b lb.length cb] 23)) (some ⟨w.heap.size, 0, none⟩) [la, lb] := by
  refine ⟨w.heap.size, 0, fun _ => ⟨rfl, by simp⟩, fun i hi => ?_⟩
  rcases (show i = 0 ∨ i = 1 by simp at hi; omega) with rfl | rfl
  · exact ⟨a, ca, by simp [rowI, go_sem], IntsAt.ext ha ((Ext.refl w).alloc _)⟩
  · exact ⟨b, cb, by simp [rowI, go_sem], IntsAt.ext hb ((Ext.refl w).alloc _)⟩
theorem rows_new1 {w : World} {a : Option Addr} {la : List Int} (ca : Nat) (ha : IntsAt w a la) : RowsAt (w.alloc (.cells #[.slice a la.length ca] 23)) (some ⟨w.heap.size, 0, none⟩) [la] := by
  refine ⟨w.heap.size, 0, fun _ => ⟨rfl, by simp⟩, fun i hi => ?_⟩
  obtain rfl : i = 0 := by simp at hi; omega
  exact ⟨a, ca, by simp [rowI, go_sem], IntsAt.ext ha ((Ext.refl w).alloc _)⟩
end Go.Proofs.YtlaamecfknkmlaaGreat
namespace Go.Kt
/-- All joined: whether it is an expression, and the expression. -/
def jnB (ls : List (List Int)) (s : Int) : Bool := ls.all kvB && decide ((ls.flatten ++ [s]).length ≤ 40)
def jnL (ls : List (List Int)) (s : Int) : List Int := if jnB ls s then ls.flatten ++ [s] else []
theorem jnL_len (ls : List (List Int)) (s : Int) : (jnL ls s).length ≤ 40 := by
  unfold jnL
  split
  · rename_i h
    unfold jnB at h
    rw [Bool.and_eq_true, decide_eq_true_eq] at h
    exact h.2
  · exact Nat.zero_le _
theorem take_next {ls : List (List Int)} {k : Nat} (h : k < ls.length) : ls.take (k + 1) = ls.take k ++ [rowI ls k] := by
  rw [List.take_add_one, List.getElem?_eq_getElem h, rowI_getElem _ _ h]; rfl
theorem jn_bad {ls : List (List Int)} {s : Int} {k : Nat} (h : k < ls.length) (hk : kvB (rowI ls k) = false) : jnB ls s = false ∧ jnL ls s = [] := by
  have : jnB ls s = false := by
    unfold jnB
    have : ls.all kvB = false := by
      rw [← Bool.not_eq_true, List.all_eq_true]
      intro e
      have := e (rowI ls k) (by rw [rowI_getElem _ _ h]; exact List.getElem_mem h)
      rw [hk] at this; cases this
    rw [this, Bool.false_and]
  exact ⟨this, by unfold jnL; rw [this]; rfl⟩
theorem jn_good {ls : List (List Int)} {s : Int} (h : ls.all kvB = true) (hl : (ls.flatten ++ [s]).length ≤ 40) : jnB ls s = true ∧ jnL ls s = ls.flatten ++ [s] := by
  have : jnB ls s = true := by unfold jnB; rw [h, decide_eq_true hl]; rfl
  exact ⟨this, by unfold jnL; rw [this]; rfl⟩
theorem jn_long {ls : List (List Int)} {s : Int} (hl : ¬ (ls.flatten ++ [s]).length ≤ 40) : jnB ls s = false ∧ jnL ls s = [] := by
  have : jnB ls s = false := by unfold jnB; rw [decide_eq_false hl, Bool.and_false]
  exact ⟨this, by unfold jnL; rw [this]; rfl⟩
theorem kvB_nil : kvB [] = false := by
  cases h : kvB []
  · rfl
  · have := (kvB_len h).1; simp at this
/-- What is joined of two, of one. -/
theorem jn_two {la lb : List Int} {s : Int} (h : jnB [la, lb] s = true) : kvB la = true ∧ kvB lb = true ∧ jnL [la, lb] s = la ++ lb ++ [s] ∧ (la ++ lb ++ [s]).length ≤ 40 := by
  have h2 := h
  unfold jnB at h
  simp only [List.all_cons, List.all_nil, Bool.and_true, Bool.and_eq_true, decide_eq_true_eq, List.flatten_cons, List.flatten_nil, List.append_nil] at h
  exact ⟨h.1.1, h.1.2, by unfold jnL; rw [h2]; simp, h.2⟩
theorem jn_one {la : List Int} {s : Int} (h : jnB [la] s = true) : kvB la = true ∧ jnL [la] s = la ++ [s] ∧ (la ++ [s]).length ≤ 40 := by
  have h2 := h
  unfold jnB at h
  simp only [List.all_cons, List.all_nil, Bool.and_true, Bool.and_eq_true, decide_eq_true_eq, List.flatten_cons, List.flatten_nil, List.append_nil] at h
  exact ⟨h.1, by unfold jnL; rw [h2]; simp, h.2⟩
theorem jn_no {ls : List (List Int)} {s : Int} (h : jnB ls s = false) : jnL ls s = [] := by unfold jnL; rw [h]; rfl
end Go.Kt
namespace Go.Proofs.YtlaamecfknkmlaaGreat
set_option linter.unusedVariables false
open Go.RowKit Go.Kt
set_option maxHeartbeats 1000000 in
theorem joinedA_c (a : Option Addr) (cap : Nat) (ls : List (List Int)) (s : Int) (w : World) (hr : RowsAt w a ls) (hg : ∀ k, k < ls.length → (rowI ls k).length ≤ 1048576) (hk : ls.length ≤ 2) :
    Calls Tryz.prog 109 #[.int .i64 s, .slice a ls.length cap] w (RetIB w (jnL ls s) (jnB ls s)) := by
  obtain ⟨b, off, h1, h2⟩ := hr
  have H1 := Lib.hid h1
  have H2 := Lib.hid h2
  have HG := Lib.hid hg
  clear h1 h2 hg
  have HBad : Hid (∀ k, k < ls.length → kvB (rowI ls k) = false → jnB ls s = false ∧ jnL ls s = []) := fun k h h' => jn_bad h h'
  have HGood : Hid (ls.all kvB = true → (ls.flatten ++ [s]).length ≤ 40 → jnB ls s = true ∧ jnL ls s = ls.flatten ++ [s]) := fun h h' => jn_good h h'
  have HLong : Hid (¬ (ls.flatten ++ [s]).length ≤ 40 → jnB ls s = false ∧ jnL ls s = []) := fun h => jn_long h
  have HNext : Hid (∀ k, k < ls.length → ls.take (k + 1) = ls.take k ++ [rowI ls k]) := fun k h => take_next h
  generalize jnB ls s = rb at *
  generalize jnL ls s = rl at *
  go_enter Tryz.func109, Tryz.ntmps109
  go_wp2
  go_loopw [6, 11] (fun v i wr => Hid (∃ k : Nat, k ≤ ls.length ∧ i = .int .i64 k ∧ (ls.take k).all kvB = true ∧ ((ls.take k).flatten).length ≤ 40 * k ∧ OwnI wr w.heap.size 3 v (ls.take k).flatten ∧ Ext w wr)) (fun _ i _ => ls.length - (intOf i).toNat)
  case atStart => exact Lib.hid ⟨0, Nat.zero_le _, rfl, rfl, Nat.zero_le _, OwnI.nil _ _ _, by (repeat (first | exact Ext.refl _ | assumption | refine Ext.alloc ?_ _ | refine Ext.drewN ?_ _ | refine Ext.drew ?_))⟩
  case round =>
    obtain ⟨k, hkn, rfl, hall, hle, ho, hx⟩ := hrel.out
    have HAll := Lib.hid hall
    clear hrel hall
    have hz := hx.size
    obtain ⟨Lk, hLk, hlk⟩ := named (ls.take k).flatten
    rw [← hLk.out] at ho
    rw [← hlk] at hle
    obtain ⟨av, cv, rfl, -⟩ := ho.shape
    have HO := Lib.hid ho
    have HX := Lib.hid hx
    clear ho hx hlk
    by_cases hlt : k < ls.length
    · obtain ⟨rfl, hb⟩ := H1.out (by omega)
      obtain ⟨ai, ci, hc, hi⟩ := H2.out k hlt
      have hc' := HX.out.cell' hc hb
      have hbr : b < wr.heap.size := Nat.lt_of_lt_of_le hb hz
      have HI := Lib.hid (hi.ext HX.out)
      have hlT := HG.out k hlt
      have hBad := Lib.hid (HBad.out k hlt)
      have hNx := Lib.hid (HNext.out k hlt)
      clear hc hi HBad HNext HLong HGood
      generalize rowI ls k = T at *
      cases hkv : kvB T
      · have hb2 := Lib.hid (hBad.out hkv)
        have KV := Lib.hid hkv
        clear hkv
        go_wp2_with fail
        refine (iKatValid_c ai ci T _ (HI.out.ext (by (repeat (first | exact Ext.refl _ | assumption | refine Ext.alloc ?_ _ | refine Ext.drewN ?_ _ | refine Ext.drew ?_)))) (by omega)).mono ?_
        rw [KV.out]
        rintro e w' ⟨rfl, rfl⟩
        go_wp2
        go_ret2
        exact ⟨_, by rw [hb2.out.1]; rfl, by rw [hb2.out.2]; exact OwnI.nil _ _ _, HX.out.trans (by (repeat (first | exact Ext.refl _ | assumption | refine Ext.alloc ?_ _ | refine Ext.drewN ?_ _ | refine Ext.drew ?_)))⟩
      · have KV := Lib.hid hkv
        have hl40 := (kvB_len hkv).2
        clear hkv hBad
        go_wp2_with fail
        refine (iKatValid_c ai ci T _ (HI.out.ext (by (repeat (first | exact Ext.refl _ | assumption | refine Ext.alloc ?_ _ | refine Ext.drewN ?_ _ | refine Ext.drew ?_)))) (by omega)).mono ?_
        rw [KV.out]
        rintro e w' ⟨rfl, rfl⟩
        go_wp2_with (at_builtin; refine any_append_ints (by rfl) _ _ _ rfl (w.heap.size) 3 Tryz.underlying23 infoInt _ (_) rfl (HO.out.ext (by (repeat (first | exact Ext.refl _ | assumption | refine Ext.alloc ?_ _ | refine Ext.drewN ?_ _ | refine Ext.drew ?_)))) _ _ (T) rfl (HI.out.ext (by (repeat (first | exact Ext.refl _ | assumption | refine Ext.alloc ?_ _ | refine Ext.drewN ?_ _ | refine Ext.drew ?_)))) (by first | omega | (simp; omega)) (by first | omega | (simp; done) | (simp; omega)) ?_)
        intro v2 w2 o2 g2
        have hx2 := Lib.hid (Ext.row (HX.out.trans (by (repeat (first | exact Ext.refl _ | assumption | refine Ext.alloc ?_ _ | refine Ext.drewN ?_ _ | refine Ext.drew ?_)))) g2 (fun k hk => (World.ownsRow.lt HO.out k hk).1))
        have O2 := Lib.hid o2
        clear o2 g2
        have hf : (ls.take (k + 1)).flatten = Lk ++ T := by rw [hNx.out, List.flatten_append, hLk.out]; simp
        have hfl : Hid (((ls.take (k + 1)).flatten).length ≤ 40 * (k + 1)) := by unfold Hid; rw [hf, List.length_append]; omega
        have hF := Lib.hid hf
        clear hf
        go_wp2
        go_roundw
        case rel => exact Lib.hid ⟨k + 1, by omega, by go_num, by rw [hNx.out, List.all_append, HAll.out]; simp [KV.out], hfl.out, by rw [hF.out]; exact O2.out, hx2.out.trans (by (repeat (first | exact Ext.refl _ | assumption | refine Ext.alloc ?_ _ | refine Ext.drewN ?_ _ | refine Ext.drew ?_)))⟩
        case measure => simp [intOf]; omega
    · obtain rfl : k = ls.length := by omega
      rw [List.take_length] at hLk
      have hA : Hid (ls.all kvB = true) := by have h := HAll.out; rw [List.take_length] at h; exact h
      obtain ⟨M, hM, hll⟩ := named (Lk ++ [s])
      have hMM : Hid (M = ls.flatten ++ [s]) := by unfold Hid; rw [hM.out, hLk.out]
      have hll' : M.length = Lk.length + 1 := by rw [hll]; simp
      have hfy : Hid (M.length ≤ 40 → rb = true ∧ rl = M) := fun h => by rw [hMM.out] at h ⊢; exact HGood.out hA.out h
      have hfn : Hid (¬ M.length ≤ 40 → rb = false ∧ rl = []) := fun h => by rw [hMM.out] at h; exact HLong.out h
      clear hll HBad HGood HLong HNext HAll hA
      go_wp2_with (at_builtin; refine any_append_ints (by rfl) _ _ _ rfl (w.heap.size) 3 Tryz.underlying23 infoInt _ (_) rfl (HO.out.ext (by (repeat (first | exact Ext.refl _ | assumption | refine Ext.alloc ?_ _ | refine Ext.drewN ?_ _ | refine Ext.drew ?_)))) _ _ ([s]) rfl (by first | exact (OwnI.lit1 _ _ _ _ (Nat.le_refl _)).ints | exact ((OwnI.lit1 _ _ _ _ (Nat.le_refl _)).ints).ext (by (repeat (first | exact Ext.refl _ | assumption | refine Ext.alloc ?_ _ | refine Ext.drewN ?_ _ | refine Ext.drew ?_)))) (by first | omega | (simp; omega)) (by first | omega | (simp; done) | (simp; omega)) ?_)
      intro v2 w2 o2 g2
      have hx2 := Lib.hid (Ext.row (HX.out.trans (by (repeat (first | exact Ext.refl _ | assumption | refine Ext.alloc ?_ _ | refine Ext.drewN ?_ _ | refine Ext.drew ?_)))) g2 (fun k hk => (World.ownsRow.lt HO.out k hk).1))
      rw [← hM.out] at o2
      obtain ⟨a2, c2, rfl, -⟩ := o2.shape
      have O2 := Lib.hid o2
      have h40 : M.length ≤ 100 := by omega
      clear o2 g2 hll'
      by_cases hf : M.length ≤ 40
      · have hF := Lib.hid (hfy.out hf)
        clear hfy hfn
        go_wp2
        go_ret2
        exact ⟨_, by rw [hF.out.1]; rfl, by rw [hF.out.2]; exact O2.out.ext (by (repeat (first | exact Ext.refl _ | assumption | refine Ext.alloc ?_ _ | refine Ext.drewN ?_ _ | refine Ext.drew ?_))), hx2.out.trans (by (repeat (first | exact Ext.refl _ | assumption | refine Ext.alloc ?_ _ | refine Ext.drewN ?_ _ | refine Ext.drew ?_)))⟩
      · have hF := Lib.hid (hfn.out hf)
        clear hfy hfn
        go_wp2
        go_ret2
        exact ⟨_, by rw [hF.out.1]; rfl, by rw [hF.out.2]; exact OwnI.nil _ _ _, hx2.out.trans (by (repeat (first | exact Ext.refl _ | assumption | refine Ext.alloc ?_ _ | refine Ext.drewN ?_ _ | refine Ext.drew ?_)))⟩
theorem rows_two (w' : World) (a b : Option Addr) (ca cb : Nat) {la lb : List Int} {w : World} (ha : IntsAt w a la) (hb : IntsAt w b lb) (hla : la.length ≤ 1048576) (hlb : lb.length ≤ 1048576) (s : Int) (hx : Ext (w.alloc (.cells #[.slice a la.length ca, .slice b lb.length cb] 23)) w') :
    Calls Tryz.prog 109 #[.int .i64 s, .slice (some ⟨w.heap.size, 0, none⟩) 2 2] w' (RetIB w' (jnL [la, lb] s) (jnB [la, lb] s)) :=
  joinedA_c (some ⟨w.heap.size, 0, none⟩) 2 [la, lb] s w' ((rows_new2 ca cb ha hb).ext hx) (fun k hk => by
    have : k = 0 ∨ k = 1 := by simp at hk; omega
    rcases this with rfl | rfl
    · exact hla
    · exact hlb) (by simp)
theorem iKatThenA_c (a b : Option Addr) (ca cb : Nat) (la lb : List Int) (w : World) (ha : IntsAt w a la) (hb : IntsAt w b lb) (hla : la.length ≤ 1048576) (hlb : lb.length ≤ 1048576) :
    Calls Tryz.prog 43 #[.slice a la.length ca, .slice b lb.length cb] w (RetIB w (jnL [la, lb] 19) (jnB [la, lb] 19)) := by
  have HC := Lib.hid (fun w' hx => rows_two w' a b ca cb ha hb hla hlb 19 hx)
  clear ha hb
  generalize jnB [la, lb] 19 = rb at *
  generalize jnL [la, lb] 19 = rl at *
  go_enter Tryz.func43, Tryz.ntmps43
  go_wp2_with fail
  refine (HC.out _ (by (repeat (first | exact Ext.refl _ | assumption | refine Ext.alloc ?_ _ | refine Ext.drewN ?_ _ | refine Ext.drew ?_)))).mono ?_
  rintro e w1 ⟨v1, rfl, o1, y⟩
  have hx1 := Lib.hid (Ext.trans (show Ext w _ by (repeat (first | exact Ext.refl _ | assumption | refine Ext.alloc ?_ _ | refine Ext.drewN ?_ _ | refine Ext.drew ?_))) y)
  have O1 := Lib.hid (o1.mono (B' := w.heap.size) (by simp))
  clear o1 y HC
  go_wp2
  go_ret2
  exact ⟨_, rfl, O1.out.ext (by (repeat (first | exact Ext.refl _ | assumption | refine Ext.alloc ?_ _ | refine Ext.drewN ?_ _ | refine Ext.drew ?_))), hx1.out.trans (by (repeat (first | exact Ext.refl _ | assumption | refine Ext.alloc ?_ _ | refine Ext.drewN ?_ _ | refine Ext.drew ?_)))⟩
theorem iKatPlusA_c (a b : Option Addr) (ca cb : Nat) (la lb : List Int) (w : World) (ha : IntsAt w a la) (hb : IntsAt w b lb) (hla : la.length ≤ 1048576) (hlb : lb.length ≤ 1048576) :
    Calls Tryz.prog 44 #[.slice a la.length ca, .slice b lb.length cb] w (RetIB w (jnL [la, lb] 20) (jnB [la, lb] 20)) := by
  have HC := Lib.hid (fun w' hx => rows_two w' a b ca cb ha hb hla hlb 20 hx)
  clear ha hb
  generalize jnB [la, lb] 20 = rb at *
  generalize jnL [la, lb] 20 = rl at *
  go_enter Tryz.func44, Tryz.ntmps44
  go_wp2_with fail
  refine (HC.out _ (by (repeat (first | exact Ext.refl _ | assumption | refine Ext.alloc ?_ _ | refine Ext.drewN ?_ _ | refine Ext.drew ?_)))).mono ?_
  rintro e w1 ⟨v1, rfl, o1, y⟩
  have hx1 := Lib.hid (Ext.trans (show Ext w _ by (repeat (first | exact Ext.refl _ | assumption | refine Ext.alloc ?_ _ | refine Ext.drewN ?_ _ | refine Ext.drew ?_))) y)
  have O1 := Lib.hid (o1.mono (B' := w.heap.size) (by simp))
  clear o1 y HC
  go_wp2
  go_ret2
  exact ⟨_, rfl, O1.out.ext (by (repeat (first | exact Ext.refl _ | assumption | refine Ext.alloc ?_ _ | refine Ext.drewN ?_ _ | refine Ext.drew ?_))), hx1.out.trans (by (repeat (first | exact Ext.refl _ | assumption | refine Ext.alloc ?_ _ | refine Ext.drewN ?_ _ | refine Ext.drew ?_)))⟩
theorem iKatStarA_c (a : Option Addr) (ca : Nat) (la : List Int) (w : World) (ha : IntsAt w a la) (hla : la.length ≤ 1048576) :
    Calls Tryz.prog 42 #[.slice a la.length ca] w (RetIB w (jnL [la] 21) (jnB [la] 21)) := by
  have HC : Hid (∀ w', Ext (w.alloc (.cells #[.slice a la.length ca] 23)) w' → Calls Tryz.prog 109 #[.int .i64 21, .slice (some ⟨w.heap.size, 0, none⟩) 1 1] w' (RetIB w' (jnL [la] 21) (jnB [la] 21))) := fun w' hx =>
    joinedA_c (some ⟨w.heap.size, 0, none⟩) 1 [la] 21 w' ((rows_new1 ca ha).ext hx) (fun k hk => by
      have : k = 0 := by simp at hk; omega
      subst this
      exact hla) (by simp)
  clear ha
  generalize jnB [la] 21 = rb at *
  generalize jnL [la] 21 = rl at *
  go_enter Tryz.func42, Tryz.ntmps42
  go_wp2_with fail
  refine (HC.out _ (by (repeat (first | exact Ext.refl _ | assumption | refine Ext.alloc ?_ _ | refine Ext.drewN ?_ _ | refine Ext.drew ?_)))).mono ?_
  rintro e w1 ⟨v1, rfl, o1, y⟩
  have hx1 := Lib.hid (Ext.trans (show Ext w _ by (repeat (first | exact Ext.refl _ | assumption | refine Ext.alloc ?_ _ | refine Ext.drewN ?_ _ | refine Ext.drew ?_))) y)
  have O1 := Lib.hid (o1.mono (B' := w.heap.size) (by simp))
  clear o1 y HC
  go_wp2
  go_ret2
  exact ⟨_, rfl, O1.out.ext (by (repeat (first | exact Ext.refl _ | assumption | refine Ext.alloc ?_ _ | refine Ext.drewN ?_ _ | refine Ext.drew ?_))), hx1.out.trans (by (repeat (first | exact Ext.refl _ | assumption | refine Ext.alloc ?_ _ | refine Ext.drewN ?_ _ | refine Ext.drew ?_)))⟩
end Go.Proofs.YtlaamecfknkmlaaGreat
