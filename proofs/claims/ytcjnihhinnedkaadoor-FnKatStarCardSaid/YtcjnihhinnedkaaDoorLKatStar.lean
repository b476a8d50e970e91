/- The law: again and again has the same actions, and its text ends with an asterisk (FnKatStar). -/
import Derived.Test.YtcjnihhinnedkaaDoorSt
namespace Go.Proofs.YtcjnihhinnedkaaDoor
set_option linter.unusedVariables false
open Go.RowKit Go.Kt

theorem talive_c (w : World) : Calls Tryd.prog 14 #[] w fun e w' => e = .returned (.bool true) ∧ w = w' := by
  go_enter Tryd.func14, Tryd.ntmps14
  go_wp2
  go_ret
  exact ⟨rfl, rfl⟩
theorem testS_pos (t : Nat) : 1 ≤ (testS t).size := by
  unfold testS
  split
  · rename_i h
    rcases (show t = 0 ∨ t = 3 ∨ t = 5 ∨ t = 10 ∨ t = 12 ∨ t = 15 by simp [namedB] at h; omega) with rfl | rfl | rfl | rfl | rfl | rfl
    all_goals decide
  · rw [ByteArray.size_append, sz1]; omega
theorem txt_pos : ∀ t : Kt, 1 ≤ t.txt.size
  | .leaf x => by
    unfold Kt.txt
    split
    · exact testS_pos _
    · exact Nat.le_refl _
  | .star a => by unfold Kt.txt; rw [ByteArray.size_append, sz1]; omega
  | .two s a b => by
    unfold Kt.txt
    split
    · rw [ByteArray.size_append, ByteArray.size_append, sz1]; omega
    · rw [ByteArray.size_append, ByteArray.size_append, sz1]; omega
theorem brk_pos (b : Bool) (s : ByteArray) (h : 1 ≤ s.size) : 1 ≤ (brk b s).size := by
  cases b
  · exact h
  · show 1 ≤ (⟨#[40]⟩ ++ s ++ ⟨#[41]⟩ : ByteArray).size
    rw [ByteArray.size_append, ByteArray.size_append, sz1]; omega
theorem txt_last {t : Kt} (hg : t.Good) (h40 : t.words.length + 1 ≤ 40) : ∃ s : ByteArray, katS (t.words ++ [21]) = s ++ ⟨#[42]⟩ ∧ 1 ≤ s.size ∧ s.size ≤ 400 := by
  have hv : kvB (Kt.star t).words = true := kvB_words_true hg (by simp [Kt.words]; omega)
  refine ⟨brk (t.top == 19 || t.top == 20) t.txt, ?_, ?_, ?_⟩
  · show katS (Kt.star t).words = _
    unfold katS
    rw [if_pos hv, treeL_words (t := .star t) hg]
    rfl
  · exact brk_pos _ _ (txt_pos t)
  · have := brk_size (t.top == 19 || t.top == 20) t.txt
    have := t.txt_size
    omega
theorem last_is (u : ByteArray) (h : u.size < (u ++ ⟨#[42]⟩).size) : (u ++ ⟨#[42]⟩)[u.size]'h = 42 := by
  rw [ByteArray.getElem_append_right (Nat.le_refl _)]
  simp only [Nat.sub_self]
  rfl
set_option maxRecDepth 100000 in
set_option maxHeartbeats 1000000 in
theorem fnKatStar_c (a : Option Addr) (cap : Nat) (l : List Int) (w : World) (h : BytesAt w a l) (hlen : l.length ≤ 9223372036854775807) (hcap : l.length ≤ cap) (hn : NamesW w) :
    Calls Tryd.prog 4 #[.slice a l.length cap] w fun e w' => e = .returned (.bool true) ∧ Ext w w' := by
  by_cases hb1 : l.length ≤ 1048576
  · have HB := Lib.hid h
    have HN := Lib.hid hn
    clear h hn
    go_enter Tryd.func4, Tryd.ntmps4
    go_wp2_with fail
    refine (drawKatStar_c a cap l _ HB.out hb1 hcap).mono ?_
    rintro e w1 ⟨v1, L, rfl, o1, hl41, hx1⟩
    obtain ⟨a1, c1, rfl, i1⟩ := o1.shape
    clear o1
    have hLL : L.length ≤ 1048576 := by omega
    cases hB : (kvB L && kvB (L ++ [21]))
    · go_wp2_with fail
      refine (iKatStar_c a1 c1 L _ i1 hLL).mono ?_
      rw [hB]
      rintro e w2 ⟨v2, rfl, o2, hx2⟩
      replace o2 : OwnI w2 w1.heap.size 3 v2 [] := o2
      obtain ⟨a2, c2, rfl, i2⟩ := o2.shape
      clear o2
      go_wp2_with fail
      refine (sKatStar_c a1 c1 L _ (i1.ext hx2) hLL).mono ?_
      rw [hB]
      rintro e w3 ⟨v3, rfl, o3, hx3⟩
      replace o3 : OwnI w3 w2.heap.size 3 v3 [] := o3
      obtain ⟨a3, c3, rfl, i3⟩ := o3.shape
      clear o3
      have HX := Lib.hid (hx1.trans (hx2.trans hx3))
      go_wp2_with fail
      refine (sameInts_c a2 a3 c2 c3 [] [] _ (i2.ext hx3) i3 (by simp) (by simp)).mono ?_
      rintro e w4 ⟨rfl, hx4⟩
      have HX4 := Lib.hid (HX.out.trans hx4)
      clear hx1 hx2 hx3 hx4 HX i1 i2 i3
      go_wp2_with (go_at_call 14; refine (talive_c _).mono ?_; rintro e w5 ⟨rfl, rfl⟩)
      go_ret
      exact ⟨rfl, HX4.out⟩
    · have hv : kvB L = true := by cases hk : kvB L <;> simp_all
      have hs : kvB (L ++ [21]) = true := by cases hk : kvB (L ++ [21]) <;> simp_all
      have h40 := (kvB_len hs).2
      have HM : Hid (actI (L ++ [21]) = actI L) := by
        unfold Hid actI; rw [if_pos hv, if_pos hs, actN_star]
      obtain ⟨u, hu, hu1, hu2⟩ : ∃ s : ByteArray, katS (L ++ [21]) = s ++ ⟨#[42]⟩ ∧ 1 ≤ s.size ∧ s.size ≤ 400 := by
        obtain ⟨t, hg, rfl⟩ := kvB_tree hv
        exact txt_last hg (by simpa using h40)
      have I0 := Lib.hid i1
      obtain ⟨M, hM, hml⟩ := named (L ++ [21])
      have CI : Hid (∀ w', Ext w1 w' → Calls Tryd.prog 11 #[.slice a1 L.length c1] w' (RetV w' true M)) := fun w' hx => by
        have := iKatStar_c a1 c1 L w' (I0.out.ext hx) hLL
        rw [hB, ← hM.out] at this; exact this
      have CS : Hid (∀ w', Ext w1 w' → Calls Tryd.prog 12 #[.slice a1 L.length c1] w' (RetV w' true M)) := fun w' hx => by
        have := sKatStar_c a1 c1 L w' (I0.out.ext hx) hLL
        rw [hB, ← hM.out] at this; exact this
      rw [← hM.out] at HM hs hu h40
      clear hB hv hml hM
      go_wp2_with fail
      refine (CI.out _ (Ext.refl _)).mono ?_
      rintro e w2 ⟨v2, rfl, o2, hx2⟩
      replace o2 : OwnI w2 w1.heap.size 3 v2 M := o2
      obtain ⟨a2, c2, rfl, i2⟩ := o2.shape
      clear o2
      go_wp2_with fail
      refine (CS.out _ hx2).mono ?_
      rintro e w3 ⟨v3, rfl, o3, hx3⟩
      replace o3 : OwnI w3 w2.heap.size 3 v3 M := o3
      obtain ⟨a3, c3, rfl, i3⟩ := o3.shape
      clear o3
      have HX := Lib.hid (hx1.trans (hx2.trans hx3))
      have I1 := Lib.hid (i1.ext (hx2.trans hx3))
      have I2 := Lib.hid (i2.ext hx3)
      have I3 := Lib.hid i3
      have hq : (M == M) = true := by simp
      have HV := Lib.hid hs
      clear hx1 hx2 hx3 i1 i2 i3 hs
      go_wp2_with fail
      refine (sameInts_c a2 a3 c2 c3 M M _ I2.out I3.out (by omega) (by omega)).mono ?_
      rw [hq]
      rintro e w4 ⟨rfl, hx4⟩
      have HX4 := Lib.hid (HX.out.trans hx4)
      have J1 := Lib.hid (I1.out.ext hx4)
      have J2 := Lib.hid (I2.out.ext hx4)
      clear hx4 HX I1 I2 I3
      go_wp2_with fail
      refine (iKatText_c a2 c2 M _ J2.out (by omega) (HN.out.ext HX4.out)).mono ?_
      rw [hu]
      rintro e w5 ⟨rfl, hx5⟩
      have HX5 := Lib.hid (HX4.out.trans hx5)
      have K1 := Lib.hid (J1.out.ext hx5)
      have K2 := Lib.hid (J2.out.ext hx5)
      clear hx5 HX4 J1 J2
      have hsz : (u ++ ⟨#[42]⟩ : ByteArray).size = u.size + 1 := by rw [ByteArray.size_append, sz1]
      go_wp2_with (first
        | (go_at_call 15; refine (iKatValid_c a2 c2 M _ K2.out (by omega)).mono ?_; rw [HV.out]; rintro e w6 ⟨rfl, rfl⟩)
        | (go_at_call 16; with_reducible refine (iKatActs_c a2 c2 M _ K2.out (by omega)).mono ?_; rw [HM.out]; rintro e w6 ⟨rfl, rfl⟩)
        | (go_at_call 16; with_reducible refine (iKatActs_c a1 c1 L _ K1.out (by omega)).mono ?_; rintro e w6 ⟨rfl, rfl⟩))
      go_ret
      exact ⟨by show Ending.returned (.bool _) = _; rw [last_is]; rfl, HX5.out⟩
  · go_enter Tryd.func4, Tryd.ntmps4
    go_wp2
    go_ret
    exact ⟨rfl, Ext.refl _⟩
end Go.Proofs.YtcjnihhinnedkaaDoor
