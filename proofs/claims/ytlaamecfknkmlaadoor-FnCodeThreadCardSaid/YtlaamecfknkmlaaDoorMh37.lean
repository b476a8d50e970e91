/- Merged texts: contracts and plain lemmas (In). -/
import Derived.Test.YtlaamecfknkmlaaDoorMh30
import Derived.Test.YtlaamecfknkmlaaDoorMh36
/- Contracts: codes drawn. -/
namespace Go.Kt
set_option linter.unusedVariables false
theorem nth_at (xs ys : List Int) (x : Int) : nth (xs ++ x :: ys) xs.length = x := by
  unfold nth; rw [List.getD_eq_getElem?_getD, List.getElem?_append_right (Nat.le_refl _)]; simp
/-- The words of a tree are one program more. -/
theorem mny_tree : ∀ (t : Pt), t.Good → ∀ (l xs ys : List Int) (m : Nat), l = xs ++ (t.words ++ ys) → mny l xs.length = some m → mny l (xs.length + t.words.length) = some (m + 1)
  | .one x, hg, l, xs, ys, m, hl, hm => by
    have hg : x = 15 ∨ (16 ≤ x ∧ x ≤ 18) := hg
    have hn : nth l xs.length = x := by rw [hl]; exact nth_at xs ys x
    have ht : tk (nth l xs.length) = 0 := by rw [hn]; unfold tk; rw [if_pos hg]
    have := mny_good hm (by rw [ht]; omega)
    rw [ht] at this
    exact this
  | .loop t a, hg, l, xs, ys, m, hl, hm => by
    have ha := mny_tree a hg.2 l xs ([200 + t] ++ ys) m (by rw [hl]; simp [Pt.words]) hm
    have hn : nth l (xs.length + a.words.length) = 200 + t := by
      rw [hl, show xs ++ ((Pt.loop t a).words ++ ys) = (xs ++ a.words) ++ (200 + t) :: ys by simp [Pt.words], ← List.length_append]
      exact nth_at _ _ _
    have h1 := hg.1
    have ht : tk (nth l (xs.length + a.words.length)) = 1 := by rw [hn]; unfold tk; rw [if_neg (by omega), if_neg (by omega), if_pos (by omega)]
    have := mny_good ha (by rw [ht]; omega)
    rw [ht] at this
    simpa [Pt.words, Nat.add_assoc] using this
  | .seq a b, hg, l, xs, ys, m, hl, hm => by
    have ha := mny_tree a hg.1 l xs (b.words ++ ([30] ++ ys)) m (by rw [hl]; simp [Pt.words]) hm
    rw [← List.length_append] at ha
    have hb := mny_tree b hg.2 l (xs ++ a.words) ([30] ++ ys) (m + 1) (by rw [hl]; simp [Pt.words]) ha
    rw [← List.length_append] at hb
    have hn : nth l (xs ++ a.words ++ b.words).length = 30 := by
      rw [hl, show xs ++ ((Pt.seq a b).words ++ ys) = (xs ++ a.words ++ b.words) ++ 30 :: ys by simp [Pt.words]]
      exact nth_at _ _ _
    have ht : tk (nth l (xs ++ a.words ++ b.words).length) = 2 := by rw [hn]; rfl
    have := mny_good hb (by rw [ht]; omega)
    rw [ht] at this
    have e : (xs ++ a.words ++ b.words).length + 1 = xs.length + (Pt.seq a b).words.length := by simp [Pt.words]; omega
    rw [e] at this
    exact this
  | .ifs t a b, hg, l, xs, ys, m, hl, hm => by
    have ha := mny_tree a hg.2.1 l xs (b.words ++ ([100 + t] ++ ys)) m (by rw [hl]; simp [Pt.words]) hm
    rw [← List.length_append] at ha
    have hb := mny_tree b hg.2.2 l (xs ++ a.words) ([100 + t] ++ ys) (m + 1) (by rw [hl]; simp [Pt.words]) ha
    rw [← List.length_append] at hb
    have hn : nth l (xs ++ a.words ++ b.words).length = 100 + t := by
      rw [hl, show xs ++ ((Pt.ifs t a b).words ++ ys) = (xs ++ a.words ++ b.words) ++ (100 + t) :: ys by simp [Pt.words]]
      exact nth_at _ _ _
    have h1 := hg.1
    have ht : tk (nth l (xs ++ a.words ++ b.words).length) = 2 := by rw [hn]; unfold tk; rw [if_neg (by omega), if_pos (by omega)]
    have := mny_good hb (by rw [ht]; omega)
    rw [ht] at this
    have e : (xs ++ a.words ++ b.words).length + 1 = xs.length + (Pt.ifs t a b).words.length := by simp [Pt.words]; omega
    rw [e] at this
    exact this
theorem pvB_words (t : Pt) (hg : t.Good) (h : t.words.length ≤ 16) : pvB t.words = true := by
  have := mny_tree t hg t.words [] [] 0 (by simp) rfl
  have hp := t.words_pos
  rw [pvB_end (m := 1) (by omega) (by simpa using this)]
  rfl
end Go.Kt
namespace Go.Proofs.YtlaamecfknkmlaaDoor
set_option linter.unusedVariables false
open Go.RowKit Go.Kt

theorem PvT.code {L : List Int} (h : PvT L) (h16 : L.length ≤ 16) : ∃ n M, PcAt L n M true ∧ 1 ≤ n ∧ n ≤ 40 := by
  obtain ⟨t, hg, rfl⟩ := h
  have hm := t.many_le
  exact ⟨t.many + 1, t.code 0 ++ [3, 0, 0], .inr ⟨pvB_words t hg h16, t, hg, rfl, h16, .inl ⟨by omega, rfl, rfl, rfl⟩⟩, by omega, by omega⟩
theorem OwnF.untouchedD {w w' : World} {B E g n : Nat} {v : Value} {L : List Int} (h : OwnF w B E v n L) (t : Touched w w' g (g + 1)) (hg : g < B) : OwnF w' B E v n L := by
  refine World.ownsRow.kept (row := some g) h ⟨t.os, t.tape, t.output, t.size, fun k hk hne => t.block k hk ?_⟩ ?_
  · have : k ≠ g := fun e => hne (by rw [e])
    omega
  · cases hv : v.ownBlock with
    | none => exact .inl rfl
    | some k => refine .inr ?_; have := (World.ownsRow.lt h k hv).1; simp; omega
/-- While a code is drawn: the instructions so far, and the reader. -/
structure InsSt (w wr : World) (g m : Nat) (v : Value) (n : Nat) (L : List Int) : Prop where
  hg : g < w.heap.size
  own : OwnF wr w.heap.size 61 v n L
  rd : Rd wr g m
  tch : Touched w wr g (g + 1)
theorem InsSt.ext {w wr w' : World} {g m n : Nat} {v : Value} {L : List Int} (h : InsSt w wr g m v n L) (e : Ext wr w') : InsSt w w' g m v n L := ⟨h.hg, h.own.ext e, h.rd.ext e, h.tch.trans (Touched.of_ext e)⟩
theorem InsSt.mono {w wr : World} {g m m' n : Nat} {v : Value} {L : List Int} (h : InsSt w wr g m v n L) (e : m ≤ m') : InsSt w wr g m' v n L := ⟨h.hg, h.own, h.rd.mono e, h.tch⟩
/-- A call that draws. -/
theorem InsSt.drawn {w wr wx w' : World} {g m m' n : Nat} {v : Value} {L : List Int} (h : InsSt w wr g m v n L) (e : Ext wr wx) (t : Touched wx w' g (g + 1)) (r : Rd w' g m') : InsSt w w' g m' v n L :=
  ⟨h.hg, OwnF.untouchedD (h.own.ext e) t h.hg, r, h.tch.trans (Touched.trans (Touched.of_ext e) t)⟩
/-- An append to a slice of the call's own, or a store into it. -/
theorem InsSt.more {w wr wx w' : World} {g m n n' k : Nat} {v v' vr : Value} {L M N : List Int} (h : InsSt w wr g m v n L) (e : Ext wr wx) (ho : OwnF wx w.heap.size 61 vr k N) (o : OwnF w' w.heap.size 61 v' n' M) (hgr : wx.grownBy w' vr.ownBlock) : InsSt w w' g m v' n' M := by
  have hb := fun k hk' => (World.ownsRow.lt ho k hk').1
  exact ⟨h.hg, o, Rd.row (h.rd.ext e) hgr (fun k hk' => by have := hb k hk'; have := h.hg; omega), Touched.row (h.tch.trans (Touched.of_ext e)) hgr hb⟩
/-- Another slice of the call's own. -/
theorem InsSt.other {w wr wx : World} {g m n k : Nat} {v v' : Value} {L M : List Int} (h : InsSt w wr g m v n L) (e : Ext wr wx) (o : OwnF wx w.heap.size 61 v' k M) : InsSt w wx g m v' k M :=
  ⟨h.hg, o, h.rd.ext e, h.tch.trans (Touched.of_ext e)⟩
theorem InsSt.shape {w wr : World} {g m n : Nat} {v : Value} {L : List Int} (h : InsSt w wr g m v n L) : ∃ a c, v = .slice a n c := h.own.shape'
theorem InsSt.store3 {w wr : World} {g m n gv c : Nat} {L : List Int} (h : InsSt w wr g m (.slice (some ⟨gv, 0, none⟩) n c) n L) (x y z : Int) :
    InsSt w (((wr.setCell ⟨gv, 0, none⟩ (.int .i64 x)).setCell ⟨gv, 1, none⟩ (.int .i64 y)).setCell ⟨gv, 2, none⟩ (.int .i64 z)) g m (.slice (some ⟨gv, 0, none⟩) n c) n (((L.set 0 x).set 1 y).set 2 z) := by
  obtain ⟨o1, g1⟩ := h.own.set 0 x
  have h1 := h.more (Ext.refl _) h.own o1 g1
  obtain ⟨o2, g2⟩ := h1.own.set 1 y
  have h2 := h1.more (Ext.refl _) h1.own o2 g2
  obtain ⟨o3, g3⟩ := h2.own.set 2 z
  exact h2.more (Ext.refl _) h2.own o3 g3
/-- What drawing a code comes to. -/
def DrewF (w : World) (g m : Nat) (e : Ending) (w' : World) : Prop := ∃ v n L, e = .returned v ∧ OwnF w' w.heap.size 61 v n L ∧ n ≤ 42 ∧ Rd w' g m ∧ Touched w w' g (g + 1)
theorem InsSt.done {w wr : World} {g m m' n : Nat} {v : Value} {L : List Int} (h : InsSt w wr g m v n L) (hn : n ≤ 42) (hm : m ≤ m') : DrewF w g m' (.returned v) wr := ⟨v, n, L, rfl, h.own, hn, h.rd.mono hm, h.tch⟩

set_option maxRecDepth 100000 in
set_option maxHeartbeats 4000000 in
theorem l20Instructions_c (g m : Nat) (n : Int) (w : World) (h : Rd w g m) (hm : m ≤ 4000) :
    Calls Tryd.prog 31 #[.pointer (some ⟨g, 0, none⟩), .int .i64 n] w (DrewF w g (m + 700)) := by
  have hg := h.lt
  have HH := Lib.hid h
  clear h
  have HC : Hid (∀ w', Ext w w' → Calls Tryd.prog 62 #[.pointer (some ⟨g, 0, none⟩), .int .i64 2, .int .i64 0] w' (DrewW w' g (m + 300) 0)) := fun w' hx => l20Words_c 2 g m 0 w' (HH.out.ext hx) (by simp only [kw]; omega) (by decide)
  go_enter Tryd.func31, Tryd.ntmps31
  go_wp2_with fail
  refine (HC.out _ (by (repeat (first | exact Ext.refl _ | assumption | refine Ext.alloc ?_ _ | refine Ext.drewN ?_ _ | refine Ext.drew ?_)))).mono ?_
  rintro e w1 ⟨v1, L1, rfl, o1, h17, hp, hr1, ht1⟩
  obtain ⟨hL16, hpv⟩ := hp rfl
  obtain ⟨n1, M1, hpc, hn1, hn40⟩ := PvT.code hpv hL16
  obtain ⟨a1, c1, rfl, -⟩ := o1.shape
  have O1 := Lib.hid o1
  have PC := Lib.hid hpc
  have hz1 := ht1.size
  have HR1 := Lib.hid hr1
  have HT1 := Lib.hid (Touched.trans (Touched.of_ext (show Ext w _ by (repeat (first | exact Ext.refl _ | assumption | refine Ext.alloc ?_ _ | refine Ext.drewN ?_ _ | refine Ext.drew ?_)))) ht1)
  clear o1 hpc hpv hr1 ht1 hp HC HH
  go_wp2_with fail
  refine (sProgCode_c a1 c1 L1 n1 M1 true _ (O1.out.ints.ext (by (repeat (first | exact Ext.refl _ | assumption | refine Ext.alloc ?_ _ | refine Ext.drewN ?_ _ | refine Ext.drew ?_)))) (by omega) (ownI_cap O1.out) PC.out).mono ?_
  rintro e w2 ⟨v2, rfl, o2, y⟩
  have HS2 := Lib.hid (show InsSt w w2 g (m + 300) v2 n1 M1 from ⟨hg, o2.mono (by first | exact hz1 | (simp; exact hz1)), HR1.out.ext (Ext.trans (by (repeat (first | exact Ext.refl _ | assumption | refine Ext.alloc ?_ _ | refine Ext.drewN ?_ _ | refine Ext.drew ?_))) y), HT1.out.trans (Touched.of_ext (Ext.trans (by (repeat (first | exact Ext.refl _ | assumption | refine Ext.alloc ?_ _ | refine Ext.drewN ?_ _ | refine Ext.drew ?_))) y))⟩)
  have hz2 := HS2.out.tch.size
  obtain ⟨a2, c2, rfl⟩ := o2.shape'
  clear o2 y HR1 HT1 O1 PC hL16 h17
  go_wp2_with fail
  refine (pick_c g _ 3 _ (HS2.out.rd.ext (by (repeat (first | exact Ext.refl _ | assumption | refine Ext.alloc ?_ _ | refine Ext.drewN ?_ _ | refine Ext.drew ?_)))) (by omega)).mono ?_
  rintro e w3 ⟨x3, rfl, hx3, hr3, ht3⟩
  have HS3 := Lib.hid (HS2.out.drawn (by (repeat (first | exact Ext.refl _ | assumption | refine Ext.alloc ?_ _ | refine Ext.drewN ?_ _ | refine Ext.drew ?_))) ht3 hr3)
  have hz3 := HS3.out.tch.size
  clear hr3 ht3 HS2
  go_upto_if 17 with fail
  go_cut [5] (fun v wx => Hid (∃ k L, 1 ≤ k ∧ k ≤ 41 ∧ InsSt w wx g (m + 600) v k L))
  case first =>
    by_cases hx0 : x3 = 0
    · subst hx0
      have HS3e := Lib.hid (HS3.out.other (wx := w3.alloc (.cells #[] 61)) (by (repeat (first | exact Ext.refl _ | assumption | refine Ext.alloc ?_ _ | refine Ext.drewN ?_ _ | refine Ext.drew ?_))) ((OwnF.empty _ _).mono hz3))
      go_wp2_with fail
      refine (pick_c g _ 7 _ (HS3e.out.rd.ext (by (repeat (first | exact Ext.refl _ | assumption | refine Ext.alloc ?_ _ | refine Ext.drewN ?_ _ | refine Ext.drew ?_)))) (by omega)).mono ?_
      rintro e w4 ⟨y, rfl, hy, hr4, ht4⟩
      have HS4 := Lib.hid (HS3e.out.drawn (by (repeat (first | exact Ext.refl _ | assumption | refine Ext.alloc ?_ _ | refine Ext.drewN ?_ _ | refine Ext.drew ?_))) ht4 hr4)
      obtain ⟨q, hq1, hq7, hwq⟩ : ∃ q : Nat, 1 ≤ q ∧ q ≤ 7 ∧ IntKind.i64.wrap (1 + (y : Int)) = (q : Int) := ⟨y + 1, by omega, by omega, by rw [IntWalk.i64_in _ (by omega)]; omega⟩
      clear hr4 ht4 HS3e HS3 hy
      go_wp2
      go_loopw [5, 8] (fun v k wr => Hid (∃ (j : Nat) (L : List Int), j ≤ q ∧ k = .int .i64 j ∧ InsSt w wr g (m + 302 + 12 * j) v j L)) (fun _ k _ => q - (intOf k).toNat)
      case atStart => exact Lib.hid ⟨0, [], by omega, rfl, HS4.out.mono (by omega)⟩
      case round =>
        obtain ⟨j, L, hj, rfl, hs⟩ := hrel.out
        obtain ⟨aj, cj, rfl⟩ := hs.shape
        have HS := Lib.hid hs
        have hz := HS.out.tch.size
        clear hrel hs HS4
        by_cases hlt : j < q
        · go_wp2_with fail
          refine (pick_c g _ 4 _ (HS.out.rd.ext (by (repeat (first | exact Ext.refl _ | assumption | refine Ext.alloc ?_ _ | refine Ext.drewN ?_ _ | refine Ext.drew ?_)))) (by omega)).mono ?_
          rintro e w5 ⟨z, rfl, hz4, hr5, ht5⟩
          have H5 := Lib.hid (HS.out.drawn (by (repeat (first | exact Ext.refl _ | assumption | refine Ext.alloc ?_ _ | refine Ext.drewN ?_ _ | refine Ext.drew ?_))) ht5 hr5)
          have hz5 := H5.out.tch.size
          clear hr5 ht5 HS
          rcases (show z = 0 ∨ z = 1 ∨ z = 2 ∨ 3 ≤ z by omega) with rfl | rfl | rfl | hz3'
          · go_wp2_with fail
            refine (pick_c g _ 3 _ (H5.out.rd.ext (by (repeat (first | exact Ext.refl _ | assumption | refine Ext.alloc ?_ _ | refine Ext.drewN ?_ _ | refine Ext.drew ?_)))) (by omega)).mono ?_
            rintro e w6 ⟨x, rfl, hx, hr6, ht6⟩
            have H6 := Lib.hid (H5.out.drawn (by (repeat (first | exact Ext.refl _ | assumption | refine Ext.alloc ?_ _ | refine Ext.drewN ?_ _ | refine Ext.drew ?_))) ht6 hr6)
            have hz6 := H6.out.tch.size
            have hw16 : IntKind.i64.wrap (16 + (x : Int)) = 16 + (x : Int) := IntWalk.i64_in _ (by omega)
            clear hr6 ht6 H5
            go_wp2_with (at_builtin; refine any_append_inss (by rfl) _ _ _ rfl (w.heap.size) 61 Tryd.underlying35 infoIns _ (j) (_) rfl (H6.out.own.ext (by (repeat (first | exact Ext.refl _ | assumption | refine Ext.alloc ?_ _ | refine Ext.drewN ?_ _ | refine Ext.drew ?_)))) _ (1) _ ([0, 16 + (x : Int), 0]) rfl (by first | exact (OwnF.lit _ _ _ _ _ _ (Nat.le_refl _)).flat | exact ((OwnF.lit _ _ _ _ _ _ (Nat.le_refl _)).flat).ext (by (repeat (first | exact Ext.refl _ | assumption | refine Ext.alloc ?_ _ | refine Ext.drewN ?_ _ | refine Ext.drew ?_)))) (by omega) (by first | omega | (simp; done) | (simp; omega)) ?_)
            intro v7 w7 o7 g7
            have H9 := Lib.hid (H6.out.more (by (repeat (first | exact Ext.refl _ | assumption | refine Ext.alloc ?_ _ | refine Ext.drewN ?_ _ | refine Ext.drew ?_))) (H6.out.own.ext (by (repeat (first | exact Ext.refl _ | assumption | refine Ext.alloc ?_ _ | refine Ext.drewN ?_ _ | refine Ext.drew ?_)))) o7 g7)
            clear H6 o7 g7
            go_wp2
            go_roundw
            case rel => exact Lib.hid ⟨j + 1, _, by omega, by go_num, (H9.out.ext (by (repeat (first | exact Ext.refl _ | assumption | refine Ext.alloc ?_ _ | refine Ext.drewN ?_ _ | refine Ext.drew ?_)))).mono (by omega)⟩
            case measure => simp [intOf]; omega
          · go_wp2_with fail
            refine (l20Test_c g _ 0 _ (H5.out.rd.ext (by (repeat (first | exact Ext.refl _ | assumption | refine Ext.alloc ?_ _ | refine Ext.drewN ?_ _ | refine Ext.drew ?_)))) (by omega)).mono ?_
            rintro e w6 ⟨t, rfl, hr6, ht6⟩
            have H6 := Lib.hid (H5.out.drawn (by (repeat (first | exact Ext.refl _ | assumption | refine Ext.alloc ?_ _ | refine Ext.drewN ?_ _ | refine Ext.drew ?_))) ht6 hr6)
            have hz6 := H6.out.tch.size
            clear hr6 ht6 H5
            go_wp2_with fail
            refine (pick_c g _ _ _ (H6.out.rd.ext (by (repeat (first | exact Ext.refl _ | assumption | refine Ext.alloc ?_ _ | refine Ext.drewN ?_ _ | refine Ext.drew ?_)))) (by omega)).mono ?_
            rintro e w7 ⟨x, rfl, hx, hr7, ht7⟩
            have H7 := Lib.hid (H6.out.drawn (by (repeat (first | exact Ext.refl _ | assumption | refine Ext.alloc ?_ _ | refine Ext.drewN ?_ _ | refine Ext.drew ?_))) ht7 hr7)
            have hz7 := H7.out.tch.size
            clear hr7 ht7 H6
            go_wp2_with (at_builtin; refine any_append_inss (by rfl) _ _ _ rfl (w.heap.size) 61 Tryd.underlying35 infoIns _ (j) (_) rfl (H7.out.own.ext (by (repeat (first | exact Ext.refl _ | assumption | refine Ext.alloc ?_ _ | refine Ext.drewN ?_ _ | refine Ext.drew ?_)))) _ (1) _ ([1, t, (x : Int)]) rfl (by first | exact (OwnF.lit _ _ _ _ _ _ (Nat.le_refl _)).flat | exact ((OwnF.lit _ _ _ _ _ _ (Nat.le_refl _)).flat).ext (by (repeat (first | exact Ext.refl _ | assumption | refine Ext.alloc ?_ _ | refine Ext.drewN ?_ _ | refine Ext.drew ?_)))) (by omega) (by first | omega | (simp; done) | (simp; omega)) ?_)
            intro v8 w8 o8 g8
            have H9 := Lib.hid (H7.out.more (by (repeat (first | exact Ext.refl _ | assumption | refine Ext.alloc ?_ _ | refine Ext.drewN ?_ _ | refine Ext.drew ?_))) (H7.out.own.ext (by (repeat (first | exact Ext.refl _ | assumption | refine Ext.alloc ?_ _ | refine Ext.drewN ?_ _ | refine Ext.drew ?_)))) o8 g8)
            clear H7 o8 g8
            go_wp2
            go_roundw
            case rel => exact Lib.hid ⟨j + 1, _, by omega, by go_num, (H9.out.ext (by (repeat (first | exact Ext.refl _ | assumption | refine Ext.alloc ?_ _ | refine Ext.drewN ?_ _ | refine Ext.drew ?_)))).mono (by omega)⟩
            case measure => simp [intOf]; omega
          · go_wp2_with fail
            refine (pick_c g _ _ _ (H5.out.rd.ext (by (repeat (first | exact Ext.refl _ | assumption | refine Ext.alloc ?_ _ | refine Ext.drewN ?_ _ | refine Ext.drew ?_)))) (by omega)).mono ?_
            rintro e w6 ⟨x, rfl, hx, hr6, ht6⟩
            have H6 := Lib.hid (H5.out.drawn (by (repeat (first | exact Ext.refl _ | assumption | refine Ext.alloc ?_ _ | refine Ext.drewN ?_ _ | refine Ext.drew ?_))) ht6 hr6)
            have hz6 := H6.out.tch.size
            clear hr6 ht6 H5
            go_wp2_with (at_builtin; refine any_append_inss (by rfl) _ _ _ rfl (w.heap.size) 61 Tryd.underlying35 infoIns _ (j) (_) rfl (H6.out.own.ext (by (repeat (first | exact Ext.refl _ | assumption | refine Ext.alloc ?_ _ | refine Ext.drewN ?_ _ | refine Ext.drew ?_)))) _ (1) _ ([2, 0, (x : Int)]) rfl (by first | exact (OwnF.lit _ _ _ _ _ _ (Nat.le_refl _)).flat | exact ((OwnF.lit _ _ _ _ _ _ (Nat.le_refl _)).flat).ext (by (repeat (first | exact Ext.refl _ | assumption | refine Ext.alloc ?_ _ | refine Ext.drewN ?_ _ | refine Ext.drew ?_)))) (by omega) (by first | omega | (simp; done) | (simp; omega)) ?_)
            intro v7 w7 o7 g7
            have H9 := Lib.hid (H6.out.more (by (repeat (first | exact Ext.refl _ | assumption | refine Ext.alloc ?_ _ | refine Ext.drewN ?_ _ | refine Ext.drew ?_))) (H6.out.own.ext (by (repeat (first | exact Ext.refl _ | assumption | refine Ext.alloc ?_ _ | refine Ext.drewN ?_ _ | refine Ext.drew ?_)))) o7 g7)
            clear H6 o7 g7
            go_wp2
            go_roundw
            case rel => exact Lib.hid ⟨j + 1, _, by omega, by go_num, (H9.out.ext (by (repeat (first | exact Ext.refl _ | assumption | refine Ext.alloc ?_ _ | refine Ext.drewN ?_ _ | refine Ext.drew ?_)))).mono (by omega)⟩
            case measure => simp [intOf]; omega
          · have e0 : ((z : Int) == 0) = false := by simp; omega
            have e1 : ((z : Int) == 1) = false := by simp; omega
            have e2 : ((z : Int) == 2) = false := by simp; omega
            go_wp2_with (at_builtin; refine any_append_inss (by rfl) _ _ _ rfl (w.heap.size) 61 Tryd.underlying35 infoIns _ (j) (_) rfl (H5.out.own.ext (by (repeat (first | exact Ext.refl _ | assumption | refine Ext.alloc ?_ _ | refine Ext.drewN ?_ _ | refine Ext.drew ?_)))) _ (1) _ ([3, 0, 0]) rfl (by first | exact (OwnF.lit _ _ _ _ _ _ (Nat.le_refl _)).flat | exact ((OwnF.lit _ _ _ _ _ _ (Nat.le_refl _)).flat).ext (by (repeat (first | exact Ext.refl _ | assumption | refine Ext.alloc ?_ _ | refine Ext.drewN ?_ _ | refine Ext.drew ?_)))) (by omega) (by first | omega | (simp; done) | (simp; omega)) ?_)
            intro v7 w7 o7 g7
            have H9 := Lib.hid (H5.out.more (by (repeat (first | exact Ext.refl _ | assumption | refine Ext.alloc ?_ _ | refine Ext.drewN ?_ _ | refine Ext.drew ?_))) (H5.out.own.ext (by (repeat (first | exact Ext.refl _ | assumption | refine Ext.alloc ?_ _ | refine Ext.drewN ?_ _ | refine Ext.drew ?_)))) o7 g7)
            clear H5 o7 g7
            go_wp2
            go_roundw
            case rel => exact Lib.hid ⟨j + 1, _, by omega, by go_num, (H9.out.ext (by (repeat (first | exact Ext.refl _ | assumption | refine Ext.alloc ?_ _ | refine Ext.drewN ?_ _ | refine Ext.drew ?_)))).mono (by omega)⟩
            case measure => simp [intOf]; omega
        · obtain rfl : j = q := by omega
          go_wp2_with (at_builtin; refine any_append_inss (by rfl) _ _ _ rfl (w.heap.size) 61 Tryd.underlying35 infoIns _ (j) (_) rfl (HS.out.own.ext (by (repeat (first | exact Ext.refl _ | assumption | refine Ext.alloc ?_ _ | refine Ext.drewN ?_ _ | refine Ext.drew ?_)))) _ (1) _ ([3, 0, 0]) rfl (by first | exact (OwnF.lit _ _ _ _ _ _ (Nat.le_refl _)).flat | exact ((OwnF.lit _ _ _ _ _ _ (Nat.le_refl _)).flat).ext (by (repeat (first | exact Ext.refl _ | assumption | refine Ext.alloc ?_ _ | refine Ext.drewN ?_ _ | refine Ext.drew ?_)))) (by omega) (by first | omega | (simp; done) | (simp; omega)) ?_)
          intro v7 w7 o7 g7
          have H7 := Lib.hid (HS.out.more (by (repeat (first | exact Ext.refl _ | assumption | refine Ext.alloc ?_ _ | refine Ext.drewN ?_ _ | refine Ext.drew ?_))) (HS.out.own.ext (by (repeat (first | exact Ext.refl _ | assumption | refine Ext.alloc ?_ _ | refine Ext.drewN ?_ _ | refine Ext.drew ?_)))) o7 g7)
          clear HS o7 g7
          go_wp2
          go_meet
          case rel => exact Lib.hid ⟨_, _, by omega, by omega, (H7.out.ext (by (repeat (first | exact Ext.refl _ | assumption | refine Ext.alloc ?_ _ | refine Ext.drewN ?_ _ | refine Ext.drew ?_)))).mono (by omega)⟩
    · have hxb : ((x3 : Int) == 0) = false := by simp; omega
      go_wp2
      go_meet
      case rel => exact Lib.hid ⟨_, _, hn1, by omega, (HS3.out.ext (by (repeat (first | exact Ext.refl _ | assumption | refine Ext.alloc ?_ _ | refine Ext.drewN ?_ _ | refine Ext.drew ?_)))).mono (by omega)⟩
  case rest =>
    obtain ⟨k, L, hk1, hk41, hs⟩ := hcut.out
    obtain ⟨ak, ck, rfl⟩ := hs.shape
    have HS := Lib.hid hs
    have hz := HS.out.tch.size
    clear hcut hs HS3 hz1 hz2 hz3 hn1 hn40 hx3
    go_wp2_with fail
    refine (odd_c g _ n _ (HS.out.rd.ext (by (repeat (first | exact Ext.refl _ | assumption | refine Ext.alloc ?_ _ | refine Ext.drewN ?_ _ | refine Ext.drew ?_)))) (by omega)).mono ?_
    rintro e w5 ⟨od, rfl, hr5, ht5⟩
    have H5 := Lib.hid (HS.out.drawn (by (repeat (first | exact Ext.refl _ | assumption | refine Ext.alloc ?_ _ | refine Ext.drewN ?_ _ | refine Ext.drew ?_))) ht5 hr5)
    have hz5 := H5.out.tch.size
    clear HS hr5 ht5
    cases od
    · go_wp2
      go_ret
      exact (H5.out.ext (by (repeat (first | exact Ext.refl _ | assumption | refine Ext.alloc ?_ _ | refine Ext.drewN ?_ _ | refine Ext.drew ?_)))).done (by omega) (by omega)
    · go_wp2_with fail
      refine (pick_c g _ 4 _ (H5.out.rd.ext (by (repeat (first | exact Ext.refl _ | assumption | refine Ext.alloc ?_ _ | refine Ext.drewN ?_ _ | refine Ext.drew ?_)))) (by omega)).mono ?_
      rintro e w6 ⟨y, rfl, hy, hr6, ht6⟩
      have H6 := Lib.hid (H5.out.drawn (by (repeat (first | exact Ext.refl _ | assumption | refine Ext.alloc ?_ _ | refine Ext.drewN ?_ _ | refine Ext.drew ?_))) ht6 hr6)
      have hz6 := H6.out.tch.size
      clear H5 hr6 ht6
      rcases (show y = 0 ∨ y = 1 ∨ y = 2 ∨ 3 ≤ y by omega) with rfl | rfl | rfl | hy3
      · go_wp2
        go_ret
        exact (H6.out.other (by (repeat (first | exact Ext.refl _ | assumption | refine Ext.alloc ?_ _ | refine Ext.drewN ?_ _ | refine Ext.drew ?_))) ((OwnF.empty _ _).mono (by first | omega | (simp; omega)))).done (by omega) (by omega)
      · go_wp2_with (at_builtin; refine any_append_inss (by rfl) _ _ _ rfl (w.heap.size) 61 Tryd.underlying35 infoIns _ (k) (_) rfl (H6.out.own.ext (by (repeat (first | exact Ext.refl _ | assumption | refine Ext.alloc ?_ _ | refine Ext.drewN ?_ _ | refine Ext.drew ?_)))) _ (1) _ ([0, 16, 0]) rfl (by first | exact (OwnF.lit _ _ _ _ _ _ (Nat.le_refl _)).flat | exact ((OwnF.lit _ _ _ _ _ _ (Nat.le_refl _)).flat).ext (by (repeat (first | exact Ext.refl _ | assumption | refine Ext.alloc ?_ _ | refine Ext.drewN ?_ _ | refine Ext.drew ?_)))) (by omega) (by first | omega | (simp; done) | (simp; omega)) ?_)
        intro v7 w7 o7 g7
        have H7 := Lib.hid (H6.out.more (by (repeat (first | exact Ext.refl _ | assumption | refine Ext.alloc ?_ _ | refine Ext.drewN ?_ _ | refine Ext.drew ?_))) (H6.out.own.ext (by (repeat (first | exact Ext.refl _ | assumption | refine Ext.alloc ?_ _ | refine Ext.drewN ?_ _ | refine Ext.drew ?_)))) o7 g7)
        clear H6 o7 g7
        go_wp2
        go_ret
        exact (H7.out.ext (by (repeat (first | exact Ext.refl _ | assumption | refine Ext.alloc ?_ _ | refine Ext.drewN ?_ _ | refine Ext.drew ?_)))).done (by omega) (by omega)
      · have hwk : IntKind.i64.wrap ((k : Int) + 1) = (k : Int) + 1 := IntWalk.i64_in _ (by omega)
        go_wp2_with (at_builtin; refine any_append_inss (by rfl) _ _ _ rfl (w.heap.size) 61 Tryd.underlying35 infoIns _ (k) (_) rfl (H6.out.own.ext (by (repeat (first | exact Ext.refl _ | assumption | refine Ext.alloc ?_ _ | refine Ext.drewN ?_ _ | refine Ext.drew ?_)))) _ (1) _ ([2, 0, (k : Int) + 1]) rfl (by first | exact (OwnF.lit _ _ _ _ _ _ (Nat.le_refl _)).flat | exact ((OwnF.lit _ _ _ _ _ _ (Nat.le_refl _)).flat).ext (by (repeat (first | exact Ext.refl _ | assumption | refine Ext.alloc ?_ _ | refine Ext.drewN ?_ _ | refine Ext.drew ?_)))) (by omega) (by first | omega | (simp; done) | (simp; omega)) ?_)
        intro v7 w7 o7 g7
        have H7 := Lib.hid (H6.out.more (by (repeat (first | exact Ext.refl _ | assumption | refine Ext.alloc ?_ _ | refine Ext.drewN ?_ _ | refine Ext.drew ?_))) (H6.out.own.ext (by (repeat (first | exact Ext.refl _ | assumption | refine Ext.alloc ?_ _ | refine Ext.drewN ?_ _ | refine Ext.drew ?_)))) o7 g7)
        clear H6 o7 g7
        go_wp2
        go_ret
        exact (H7.out.ext (by (repeat (first | exact Ext.refl _ | assumption | refine Ext.alloc ?_ _ | refine Ext.drewN ?_ _ | refine Ext.drew ?_)))).done (by omega) (by omega)
      · have e0 : ((y : Int) == 0) = false := by simp; omega
        have e1 : ((y : Int) == 1) = false := by simp; omega
        have e2 : ((y : Int) == 2) = false := by simp; omega
        obtain ⟨gv, cv, he, hgv, hgl, hcs, hfr⟩ := H6.out.own.row (by omega)
        obtain ⟨rfl, rfl⟩ : ak = some ⟨gv, 0, none⟩ ∧ ck = cv := by simpa using he
        have k0 := hcs 0 (by omega)
        have k1 := hcs 1 (by omega)
        have k2 := hcs 2 (by omega)
        have H9 := Lib.hid (H6.out.store3 3 1 0)
        clear he hcs H6
        go_wp2
        go_ret
        exact (H9.out.ext (by (repeat (first | exact Ext.refl _ | assumption | refine Ext.alloc ?_ _ | refine Ext.drewN ?_ _ | refine Ext.drew ?_)))).done (by omega) (by omega)
end Go.Proofs.YtlaamecfknkmlaaDoor
