/- Contracts: expressions put together, in the reference and in the program. -/
import Derived.Test.YtnhdachenckceaaKa
import Derived.Test.YtnhdachenckceaaCb
import Derived.Test.YtnhdachenckceaaAny
import Derived.Test.YtnhdachenckceaaPq
namespace Go.Proofs.Ytnhdachenckceaa
set_option linter.unusedVariables false
open Go.RowKit Go.Kt

theorem kTestNot_c (n : Nat) (w : World) (hn : n ≤ 15) : Calls Try.prog 60 #[.int .i64 (n : Int)] w fun e w' => e = .returned (.int .i64 (15 - (n : Int))) ∧ w = w' := by
  rcases (show n = 0 ∨ n = 1 ∨ n = 2 ∨ n = 3 ∨ n = 4 ∨ n = 5 ∨ n = 6 ∨ n = 7 ∨ n = 8 ∨ n = 9 ∨ n = 10 ∨ n = 11 ∨ n = 12 ∨ n = 13 ∨ n = 14 ∨ n = 15 by omega) with rfl | rfl | rfl | rfl | rfl | rfl | rfl | rfl | rfl | rfl | rfl | rfl | rfl | rfl | rfl | rfl
  all_goals
    go_enter Try.func60, Try.ntmps60
    go_wp2_with fail
    refine (iTestValid_c _ _).mono ?_
    rintro e w' ⟨rfl, rfl⟩
    go_wp2
    go_ret
    exact ⟨rfl, rfl⟩
theorem kTestNot_i (t : Int) (w : World) (h : 0 ≤ t ∧ t ≤ 15) : Calls Try.prog 60 #[.int .i64 t] w fun e w' => e = .returned (.int .i64 (15 - t)) ∧ w = w' := by
  obtain ⟨n, rfl⟩ := Int.eq_ofNat_of_zero_le h.1
  exact kTestNot_c n w (by omega)
theorem kTestNot_s (t : Int) (w : World) (h : 0 ≤ t ∧ t ≤ 15) : Calls Try.prog 77 #[.int .i64 t] w fun e w' => e = .returned (.int .i64 (15 - t)) ∧ w = w' := by
  have h0 := h.1
  have h1 := h.2
  have hv : inB t 0 15 = true := by simp [inB]; omega
  clear h
  go_enter Try.func77, Try.ntmps77
  go_wp2_with fail
  refine (sTestValid_c _ _).mono ?_
  rw [hv]
  rintro e w' ⟨rfl, rfl⟩
  go_wp2
  go_ret
  exact ⟨rfl, rfl⟩
theorem named (l : List Int) : ∃ L : List Int, Hid (L = l) ∧ L.length = l.length := ⟨l, rfl, rfl⟩
theorem l2Join_c (a b : Option Addr) (ca cb : Nat) (la lb : List Int) (s : Int) (w : World) (ha : IntsAt w a la) (hb : IntsAt w b lb) (hla : la.length ≤ 1048576) (hlb : lb.length ≤ 1048576) :
    Calls Try.prog 76 #[.slice a la.length ca, .slice b lb.length cb, .int .i64 s] w (RetI 3 w (la ++ lb ++ [s])) := by
  have HA := Lib.hid ha
  have HB := Lib.hid hb
  clear ha hb
  go_enter Try.func76, Try.ntmps76
  go_wp2_with (at_builtin; refine any_append_ints (by rfl) _ _ _ rfl (w.heap.size) 3 Try.underlying22 infoInt _ ([]) rfl (by first | exact OwnI.empty _ _ | exact (OwnI.empty _ _).ext (by (repeat (first | exact Ext.refl _ | assumption | refine Ext.alloc ?_ _ | refine Ext.drewN ?_ _ | refine Ext.drew ?_)))) _ _ (la) rfl (HA.out.ext (by (repeat (first | exact Ext.refl _ | assumption | refine Ext.alloc ?_ _ | refine Ext.drewN ?_ _ | refine Ext.drew ?_)))) (by first | omega | (simp; omega)) (by first | omega | (simp; done) | (simp; omega)) ?_)
  intro v1 w1 o1 g1
  have hx1 := Lib.hid (Ext.rowOf (w0 := w) (show Ext w _ by (repeat (first | exact Ext.refl _ | assumption | refine Ext.alloc ?_ _ | refine Ext.drewN ?_ _ | refine Ext.drew ?_))) g1 (Nat.le_refl _))
  obtain ⟨a1, c1, rfl, -⟩ := o1.shape
  have O1 := Lib.hid o1
  have hz1 := hx1.out.size
  clear o1 g1
  go_wp2_with (at_builtin; refine any_append_ints (by rfl) _ _ _ rfl (w.heap.size) 3 Try.underlying22 infoInt _ (_) rfl (O1.out.ext (by (repeat (first | exact Ext.refl _ | assumption | refine Ext.alloc ?_ _ | refine Ext.drewN ?_ _ | refine Ext.drew ?_)))) _ _ (lb) rfl (HB.out.ext (by first | exact hx1.out | exact hx1.out.trans (by (repeat (first | exact Ext.refl _ | assumption | refine Ext.alloc ?_ _ | refine Ext.drewN ?_ _ | refine Ext.drew ?_))))) (by first | omega | (simp; omega)) (by first | omega | (simp; done) | (simp; omega)) ?_)
  intro v2 w2 o2 g2
  have hx2 := Lib.hid (Ext.row (hx1.out.trans (by (repeat (first | exact Ext.refl _ | assumption | refine Ext.alloc ?_ _ | refine Ext.drewN ?_ _ | refine Ext.drew ?_)))) g2 (fun k hk => (World.ownsRow.lt O1.out k hk).1))
  obtain ⟨L2, hL2, hl2⟩ := named (la ++ lb)
  rw [← hL2.out] at o2
  rw [List.length_append] at hl2
  have hl2' : L2.length ≤ 2097152 := by omega
  clear hl2
  obtain ⟨a2, c2, rfl, -⟩ := o2.shape
  have O2 := Lib.hid o2
  have hz2 := hx2.out.size
  clear o2 g2
  go_wp2_with (at_builtin; refine any_append_ints (by rfl) _ _ _ rfl (w.heap.size) 3 Try.underlying22 infoInt _ (_) rfl (O2.out.ext (by (repeat (first | exact Ext.refl _ | assumption | refine Ext.alloc ?_ _ | refine Ext.drewN ?_ _ | refine Ext.drew ?_)))) _ _ ([s]) rfl (by first | exact (OwnI.lit1 _ _ _ _ (Nat.le_refl _)).ints | exact ((OwnI.lit1 _ _ _ _ (Nat.le_refl _)).ints).ext (by (repeat (first | exact Ext.refl _ | assumption | refine Ext.alloc ?_ _ | refine Ext.drewN ?_ _ | refine Ext.drew ?_)))) (by first | omega | (simp; omega)) (by first | omega | (simp; done) | (simp; omega)) ?_)
  intro v3 w3 o3 g3
  have hx3 := Lib.hid (Ext.row (hx2.out.trans (by (repeat (first | exact Ext.refl _ | assumption | refine Ext.alloc ?_ _ | refine Ext.drewN ?_ _ | refine Ext.drew ?_)))) g3 (fun k hk => (World.ownsRow.lt O2.out k hk).1))
  obtain ⟨L3, hL3, -⟩ := named (L2 ++ [s])
  rw [← hL3.out] at o3
  obtain ⟨a3, c3, rfl, -⟩ := o3.shape
  have O3 := Lib.hid o3
  clear o3 g3
  go_wp2
  go_ret
  exact ⟨_, rfl, by rw [← hL2.out, ← hL3.out]; exact O3.out, hx3.out.trans (by (repeat (first | exact Ext.refl _ | assumption | refine Ext.alloc ?_ _ | refine Ext.drewN ?_ _ | refine Ext.drew ?_)))⟩
/-- What a call that makes an expression, and a truth, comes to. -/
def RetIB (w : World) (l : List Int) (ok : Bool) (e : Ending) (w' : World) : Prop := ∃ v, e = .returned (.tuple #[v, .bool ok]) ∧ OwnI w' w.heap.size 3 v l ∧ Ext w w'
def fitL (l : List Int) : List Int := if l.length ≤ 40 then l else []
def fitB (l : List Int) : Bool := decide (l.length ≤ 40)
theorem fit_yes {l : List Int} (h : l.length ≤ 40) : fitL l = l ∧ fitB l = true := ⟨if_pos h, decide_eq_true h⟩
theorem fit_no {l : List Int} (h : ¬ l.length ≤ 40) : fitL l = [] ∧ fitB l = false := ⟨if_neg h, decide_eq_false h⟩
def RetFit (w : World) (l : List Int) (e : Ending) (w' : World) : Prop := RetIB w (fitL l) (fitB l) e w'
theorem allK_take {ks : List Kt} {k : Nat} (h : k < ks.length) : allK (ks.take (k + 1)) = allK (ks.take k) ++ (ks[k]).words := by
  rw [List.take_add_one, List.getElem?_eq_getElem h, allK_append]; simp [allK]
theorem allK_le : ∀ (ks : List Kt), (∀ t, t ∈ ks → t.words.length ≤ 40) → (allK ks).length ≤ 40 * ks.length
  | [], _ => by simp [allK]
  | t :: ts, h => by
    have h1 := h t (by simp)
    have h2 := allK_le ts (fun u hu => h u (by simp [hu]))
    simp only [allK, List.length_append, List.length_cons]
    omega
set_option maxHeartbeats 1000000 in
theorem joined_c (a : Option Addr) (cap : Nat) (ks : List Kt) (s : Int) (w : World) (hr : RowsAt w a (ks.map Kt.words)) (hg : ∀ t, t ∈ ks → t.Good ∧ t.words.length ≤ 40) (hk : ks.length ≤ 2) :
    Calls Try.prog 103 #[.int .i64 s, .slice a ks.length cap] w (RetFit w (allK ks ++ [s])) := by
  obtain ⟨b, off, h1, h2⟩ := hr
  have H1 : Hid (0 < ks.length → a = some ⟨b, off, none⟩ ∧ b < w.heap.size) := fun h => h1 (by simpa using h)
  have H2 : Hid (∀ i (h : i < ks.length), ∃ ai ci, w.cell? ⟨b, off + i, none⟩ = some (.slice ai (ks[i]).words.length ci) ∧ IntsAt w ai (ks[i]).words) := fun i hi => by
    have e : rowI (ks.map Kt.words) i = (ks[i]).words := by rw [rowI_getElem _ _ (by simpa using hi)]; simp
    have := h2 i (by simpa using hi)
    rw [e] at this
    exact this
  have HG := Lib.hid hg
  clear h1 h2 hg
  go_enter Try.func103, Try.ntmps103
  go_wp2
  go_loopw [6, 11] (fun v i wr => Hid (∃ k : Nat, k ≤ ks.length ∧ i = .int .i64 k ∧ OwnI wr w.heap.size 3 v (allK (ks.take k)) ∧ Ext w wr)) (fun _ i _ => ks.length - (intOf i).toNat)
  case atStart => exact Lib.hid ⟨0, Nat.zero_le _, rfl, OwnI.nil _ _ _, by (repeat (first | exact Ext.refl _ | assumption | refine Ext.alloc ?_ _ | refine Ext.drewN ?_ _ | refine Ext.drew ?_))⟩
  case round =>
    obtain ⟨k, hkn, rfl, ho, hx⟩ := hrel.out
    clear hrel
    have hle := allK_le (ks.take k) (fun t ht => (HG.out t (List.mem_of_mem_take ht)).2)
    have hz := hx.size
    rw [List.length_take, Nat.min_eq_left hkn] at hle
    obtain ⟨Lk, hLk, hlk⟩ := named (allK (ks.take k))
    rw [← hLk.out] at ho
    rw [← hlk] at hle
    obtain ⟨av, cv, rfl, -⟩ := ho.shape
    have HO := Lib.hid ho
    have HX := Lib.hid hx
    clear ho hx hlk
    by_cases hlt : k < ks.length
    · obtain ⟨rfl, hb⟩ := H1.out (by omega)
      obtain ⟨ai, ci, hc, hi⟩ := H2.out k hlt
      have hc' := HX.out.cell' hc hb
      have hbr : b < wr.heap.size := Nat.lt_of_lt_of_le hb hz
      have HI := Lib.hid (hi.ext HX.out)
      obtain ⟨hgd, hl40⟩ := HG.out _ (List.getElem_mem hlt)
      have hkv := Lib.hid (kvB_words_true hgd hl40)
      have htk := Lib.hid (allK_take hlt)
      clear hc hi hgd
      generalize hT : (ks[k]).words = T at *
      go_wp2_with fail
      refine (iKatValid_c ai ci T _ (HI.out.ext (by (repeat (first | exact Ext.refl _ | assumption | refine Ext.alloc ?_ _ | refine Ext.drewN ?_ _ | refine Ext.drew ?_)))) (by omega)).mono ?_
      rw [hkv.out]
      rintro e w' ⟨rfl, rfl⟩
      go_wp2_with (at_builtin; refine any_append_ints (by rfl) _ _ _ rfl (w.heap.size) 3 Try.underlying22 infoInt _ (_) rfl (HO.out.ext (by (repeat (first | exact Ext.refl _ | assumption | refine Ext.alloc ?_ _ | refine Ext.drewN ?_ _ | refine Ext.drew ?_)))) _ _ (T) rfl (HI.out.ext (by (repeat (first | exact Ext.refl _ | assumption | refine Ext.alloc ?_ _ | refine Ext.drewN ?_ _ | refine Ext.drew ?_)))) (by first | omega | (simp; omega)) (by first | omega | (simp; done) | (simp; omega)) ?_)
      intro v2 w2 o2 g2
      have hx2 := Lib.hid (Ext.row (HX.out.trans (by (repeat (first | exact Ext.refl _ | assumption | refine Ext.alloc ?_ _ | refine Ext.drewN ?_ _ | refine Ext.drew ?_)))) g2 (fun k hk => (World.ownsRow.lt HO.out k hk).1))
      have O2 := Lib.hid o2
      clear o2 g2
      go_wp2
      go_roundw
      case rel => exact Lib.hid ⟨k + 1, by omega, by go_num, by rw [htk.out, ← hLk.out]; exact O2.out, hx2.out.trans (by (repeat (first | exact Ext.refl _ | assumption | refine Ext.alloc ?_ _ | refine Ext.drewN ?_ _ | refine Ext.drew ?_)))⟩
      case measure => simp [intOf]; omega
    · obtain rfl : k = ks.length := by omega
      rw [List.take_length] at hLk
      obtain ⟨M, hM, hll⟩ := named (Lk ++ [s])
      have hMM : Hid (M = allK ks ++ [s]) := by unfold Hid; rw [hM.out, hLk.out]
      have hll' : M.length = Lk.length + 1 := by rw [hll]; simp
      have hfy := Lib.hid (fit_yes (l := M))
      have hfn := Lib.hid (fit_no (l := M))
      clear hll
      go_wp2_with (at_builtin; refine any_append_ints (by rfl) _ _ _ rfl (w.heap.size) 3 Try.underlying22 infoInt _ (_) rfl (HO.out.ext (by (repeat (first | exact Ext.refl _ | assumption | refine Ext.alloc ?_ _ | refine Ext.drewN ?_ _ | refine Ext.drew ?_)))) _ _ ([s]) rfl (by first | exact (OwnI.lit1 _ _ _ _ (Nat.le_refl _)).ints | exact ((OwnI.lit1 _ _ _ _ (Nat.le_refl _)).ints).ext (by (repeat (first | exact Ext.refl _ | assumption | refine Ext.alloc ?_ _ | refine Ext.drewN ?_ _ | refine Ext.drew ?_)))) (by first | omega | (simp; omega)) (by first | omega | (simp; done) | (simp; omega)) ?_)
      intro v2 w2 o2 g2
      have hx2 := Lib.hid (Ext.row (HX.out.trans (by (repeat (first | exact Ext.refl _ | assumption | refine Ext.alloc ?_ _ | refine Ext.drewN ?_ _ | refine Ext.drew ?_)))) g2 (fun k hk => (World.ownsRow.lt HO.out k hk).1))
      rw [← hM.out] at o2
      obtain ⟨a2, c2, rfl, -⟩ := o2.shape
      have O2 := Lib.hid o2
      have h40 : M.length ≤ 100 := by omega
      clear o2 g2 hll'
      by_cases hf : M.length ≤ 40
      · have hF := Lib.hid (hfy.out hf)
        clear hfy hfn
        go_wp2
        go_ret2
        exact ⟨_, by rw [← hMM.out, hF.out.2]; rfl, by rw [← hMM.out, hF.out.1]; exact O2.out.ext (by (repeat (first | exact Ext.refl _ | assumption | refine Ext.alloc ?_ _ | refine Ext.drewN ?_ _ | refine Ext.drew ?_))), hx2.out.trans (by (repeat (first | exact Ext.refl _ | assumption | refine Ext.alloc ?_ _ | refine Ext.drewN ?_ _ | refine Ext.drew ?_)))⟩
      · have hF := Lib.hid (hfn.out hf)
        clear hfy hfn
        go_wp2
        go_ret2
        exact ⟨_, by rw [← hMM.out, hF.out.2]; rfl, by rw [← hMM.out, hF.out.1]; exact OwnI.nil _ _ _, hx2.out.trans (by (repeat (first | exact Ext.refl _ | assumption | refine Ext.alloc ?_ _ | refine Ext.drewN ?_ _ | refine Ext.drew ?_)))⟩
/-- Two slices of ints in a new block. -/
theorem rows_new2 {w : World} {a b : Option Addr} {la lb : List Int} (ca cb : Nat) (ha : IntsAt w a la) (hb : IntsAt w b lb) : RowsAt (w.alloc (.cells #[.slice a la.length ca, .slice b lb.length cb] 22)) (some ⟨w.heap.size, 0, none⟩) [la, lb] := by
  refine ⟨w.heap.size, 0, fun _ => ⟨rfl, by simp⟩, fun i hi => ?_⟩
  rcases (show i = 0 ∨ i = 1 by simp at hi; omega) with rfl | rfl
  · exact ⟨a, ca, by simp [rowI, go_sem], IntsAt.ext ha ((Ext.refl w).alloc _)⟩
  · exact ⟨b, cb, by simp [rowI, go_sem], IntsAt.ext hb ((Ext.refl w).alloc _)⟩
theorem rows_new1 {w : World} {a : Option Addr} {la : List Int} (ca : Nat) (ha : IntsAt w a la) : RowsAt (w.alloc (.cells #[.slice a la.length ca] 22)) (some ⟨w.heap.size, 0, none⟩) [la] := by
  refine ⟨w.heap.size, 0, fun _ => ⟨rfl, by simp⟩, fun i hi => ?_⟩
  obtain rfl : i = 0 := by simp at hi; omega
  exact ⟨a, ca, by simp [rowI, go_sem], IntsAt.ext ha ((Ext.refl w).alloc _)⟩
/-- A call that makes the expression of a tree, if it is not too long. -/
def RetK (w : World) (t : Kt) (e : Ending) (w' : World) : Prop := RetFit w t.words e w'
theorem iKatThen_c (a b : Option Addr) (ca cb : Nat) (ta tb : Kt) (w : World) (ha : IntsAt w a ta.words) (hb : IntsAt w b tb.words) (ga : ta.Good) (gb : tb.Good) (la : ta.words.length ≤ 40) (lb : tb.words.length ≤ 40) :
    Calls Try.prog 102 #[.slice a ta.words.length ca, .slice b tb.words.length cb] w (RetK w (.two 19 ta tb)) := by
  have HR := Lib.hid (rows_new2 ca cb ha hb)
  have HC : Hid (∀ w', Ext (w.alloc (.cells #[.slice a ta.words.length ca, .slice b tb.words.length cb] 22)) w' → Calls Try.prog 103 #[.int .i64 19, .slice (some ⟨w.heap.size, 0, none⟩) 2 2] w' (RetFit w' (Kt.two 19 ta tb).words)) := fun w' hx => by
    have := joined_c (some ⟨w.heap.size, 0, none⟩) 2 [ta, tb] 19 w' (HR.out.ext hx) (fun t ht => by
      rcases (show t = ta ∨ t = tb by simpa using ht) with rfl | rfl
      · exact ⟨ga, la⟩
      · exact ⟨gb, lb⟩) (by simp)
    rw [show (Kt.two 19 ta tb).words = allK [ta, tb] ++ [19] by simp [Kt.words, allK]]
    exact this
  clear ha hb HR
  generalize ta.words = la1 at *
  generalize tb.words = lb1 at *
  go_enter Try.func102, Try.ntmps102
  go_wp2_with fail
  refine (HC.out _ (by (repeat (first | exact Ext.refl _ | assumption | refine Ext.alloc ?_ _ | refine Ext.drewN ?_ _ | refine Ext.drew ?_)))).mono ?_
  rintro e w1 ⟨v1, rfl, o1, y⟩
  have hx1 := Lib.hid (Ext.trans (show Ext w _ by (repeat (first | exact Ext.refl _ | assumption | refine Ext.alloc ?_ _ | refine Ext.drewN ?_ _ | refine Ext.drew ?_))) y)
  have O1 := Lib.hid (o1.mono (B' := w.heap.size) (by simp))
  clear o1 y HC
  go_wp2
  go_ret2
  exact ⟨_, rfl, O1.out.ext (by (repeat (first | exact Ext.refl _ | assumption | refine Ext.alloc ?_ _ | refine Ext.drewN ?_ _ | refine Ext.drew ?_))), hx1.out.trans (by (repeat (first | exact Ext.refl _ | assumption | refine Ext.alloc ?_ _ | refine Ext.drewN ?_ _ | refine Ext.drew ?_)))⟩
theorem iKatPlus_c (a b : Option Addr) (ca cb : Nat) (ta tb : Kt) (w : World) (ha : IntsAt w a ta.words) (hb : IntsAt w b tb.words) (ga : ta.Good) (gb : tb.Good) (la : ta.words.length ≤ 40) (lb : tb.words.length ≤ 40) :
    Calls Try.prog 111 #[.slice a ta.words.length ca, .slice b tb.words.length cb] w (RetK w (.two 20 ta tb)) := by
  have HR := Lib.hid (rows_new2 ca cb ha hb)
  have HC : Hid (∀ w', Ext (w.alloc (.cells #[.slice a ta.words.length ca, .slice b tb.words.length cb] 22)) w' → Calls Try.prog 103 #[.int .i64 20, .slice (some ⟨w.heap.size, 0, none⟩) 2 2] w' (RetFit w' (Kt.two 20 ta tb).words)) := fun w' hx => by
    have := joined_c (some ⟨w.heap.size, 0, none⟩) 2 [ta, tb] 20 w' (HR.out.ext hx) (fun t ht => by
      rcases (show t = ta ∨ t = tb by simpa using ht) with rfl | rfl
      · exact ⟨ga, la⟩
      · exact ⟨gb, lb⟩) (by simp)
    rw [show (Kt.two 20 ta tb).words = allK [ta, tb] ++ [20] by simp [Kt.words, allK]]
    exact this
  clear ha hb HR
  generalize ta.words = la1 at *
  generalize tb.words = lb1 at *
  go_enter Try.func111, Try.ntmps111
  go_wp2_with fail
  refine (HC.out _ (by (repeat (first | exact Ext.refl _ | assumption | refine Ext.alloc ?_ _ | refine Ext.drewN ?_ _ | refine Ext.drew ?_)))).mono ?_
  rintro e w1 ⟨v1, rfl, o1, y⟩
  have hx1 := Lib.hid (Ext.trans (show Ext w _ by (repeat (first | exact Ext.refl _ | assumption | refine Ext.alloc ?_ _ | refine Ext.drewN ?_ _ | refine Ext.drew ?_))) y)
  have O1 := Lib.hid (o1.mono (B' := w.heap.size) (by simp))
  clear o1 y HC
  go_wp2
  go_ret2
  exact ⟨_, rfl, O1.out.ext (by (repeat (first | exact Ext.refl _ | assumption | refine Ext.alloc ?_ _ | refine Ext.drewN ?_ _ | refine Ext.drew ?_))), hx1.out.trans (by (repeat (first | exact Ext.refl _ | assumption | refine Ext.alloc ?_ _ | refine Ext.drewN ?_ _ | refine Ext.drew ?_)))⟩
theorem iKatStar_c (a : Option Addr) (ca : Nat) (ta : Kt) (w : World) (ha : IntsAt w a ta.words) (ga : ta.Good) (la : ta.words.length ≤ 40) :
    Calls Try.prog 117 #[.slice a ta.words.length ca] w (RetK w (.star ta)) := by
  have HR := Lib.hid (rows_new1 ca ha)
  have HC : Hid (∀ w', Ext (w.alloc (.cells #[.slice a ta.words.length ca] 22)) w' → Calls Try.prog 103 #[.int .i64 21, .slice (some ⟨w.heap.size, 0, none⟩) 1 1] w' (RetFit w' (Kt.star ta).words)) := fun w' hx => by
    have := joined_c (some ⟨w.heap.size, 0, none⟩) 1 [ta] 21 w' (HR.out.ext hx) (fun t ht => by
      obtain rfl : t = ta := by simpa using ht
      exact ⟨ga, la⟩) (by simp)
    rw [show (Kt.star ta).words = allK [ta] ++ [21] by simp [Kt.words, allK]]
    exact this
  clear ha HR
  generalize ta.words = la1 at *
  go_enter Try.func117, Try.ntmps117
  go_wp2_with fail
  refine (HC.out _ (by (repeat (first | exact Ext.refl _ | assumption | refine Ext.alloc ?_ _ | refine Ext.drewN ?_ _ | refine Ext.drew ?_)))).mono ?_
  rintro e w1 ⟨v1, rfl, o1, y⟩
  have hx1 := Lib.hid (Ext.trans (show Ext w _ by (repeat (first | exact Ext.refl _ | assumption | refine Ext.alloc ?_ _ | refine Ext.drewN ?_ _ | refine Ext.drew ?_))) y)
  have O1 := Lib.hid (o1.mono (B' := w.heap.size) (by simp))
  clear o1 y HC
  go_wp2
  go_ret2
  exact ⟨_, rfl, O1.out.ext (by (repeat (first | exact Ext.refl _ | assumption | refine Ext.alloc ?_ _ | refine Ext.drewN ?_ _ | refine Ext.drew ?_))), hx1.out.trans (by (repeat (first | exact Ext.refl _ | assumption | refine Ext.alloc ?_ _ | refine Ext.drewN ?_ _ | refine Ext.drew ?_)))⟩
end Go.Proofs.Ytnhdachenckceaa
