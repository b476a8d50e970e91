/- For all bytes: what DrawProgValid draws of them is valid for the program where it is for the reference; in a loop, as far as it fits, a valid program is valid, with a further action behind it it is not (FnProgValid). -/
import Derived.Test.YtnhdachenckceaaWa
import Derived.Test.YtnhdachenckceaaFrame
import Derived.Test.YtnhdachenckceaaQa
import Derived.Test.YtnhdachenckceaaLExactProgValid
namespace Go.Kt
theorem mny_pre (L M : List Int) : ∀ k, k ≤ L.length → mny (L ++ M) k = mny L k
  | 0, _ => rfl
  | k + 1, h => by
    have e : nth (L ++ M) k = nth L k := by
      unfold nth; rw [List.getD_eq_getElem?_getD, List.getD_eq_getElem?_getD, List.getElem?_append_left (by omega)]
    simp only [mny, mny_pre L M k (by omega), e]
theorem nth_last (L : List Int) (x : Int) : nth (L ++ [x]) L.length = x := by
  unfold nth; rw [List.getD_eq_getElem?_getD, List.getElem?_append_right (Nat.le_refl _)]; simp
theorem pvB_inv {L : List Int} (h : pvB L = true) : (1 ≤ L.length ∧ L.length ≤ 16) ∧ mny L L.length = some 1 := by
  unfold pvB at h
  simp only [Bool.and_eq_true, decide_eq_true_eq] at h
  exact h
theorem pvB_act {L : List Int} (h : pvB L = true) : pvB (L ++ [16]) = false := by
  obtain ⟨hl, hm⟩ := pvB_inv h
  have h1 := mny_pre L [16] L.length (Nat.le_refl _)
  rw [hm] at h1
  have h2 := mny_good h1 (by rw [nth_last]; decide)
  rw [nth_last] at h2
  by_cases hn : 1 ≤ (L ++ [16]).length ∧ (L ++ [16]).length ≤ 16
  · have := pvB_end (m := 2) hn (by rw [List.length_append]; exact h2)
    rw [this]; rfl
  · exact pvB_out hn
theorem pvB_loop {L : List Int} (h : pvB L = true) (h16 : L.length ≠ 16) : pvB (L ++ [210]) = true := by
  obtain ⟨hl, hm⟩ := pvB_inv h
  have h1 := mny_pre L [210] L.length (Nat.le_refl _)
  rw [hm] at h1
  have h2 := mny_good h1 (by rw [nth_last]; decide)
  rw [nth_last] at h2
  have := pvB_end (l := L ++ [210]) (m := 1) (by simp; omega) (by rw [List.length_append]; exact h2)
  rw [this]; rfl
end Go.Kt
namespace Go.Proofs.Ytnhdachenckceaa
set_option linter.unusedVariables false
open Go.RowKit Go.Kt

theorem kalive_c (w : World) : Calls Try.prog 25 #[] w fun e w' => e = .returned (.bool true) ∧ w = w' := by
  go_enter Try.func25, Try.ntmps25
  go_wp2_with fail
  refine (kTestNot_i 0 _ (by decide)).mono ?_
  rintro e w1 ⟨rfl, rfl⟩
  go_wp2_with fail
  refine (kTestNot_i 15 _ (by decide)).mono ?_
  rintro e w1 ⟨rfl, rfl⟩
  go_wp2
  go_ret
  exact ⟨rfl, rfl⟩
/-- What drawing a program from bytes comes to. -/
def DrewP (w : World) (e : Ending) (w' : World) : Prop := ∃ v L, e = .returned v ∧ OwnI w' w.heap.size 3 v L ∧ L.length ≤ 17 ∧ Ext w w'
theorem drawProgValid_c (a : Option Addr) (cap : Nat) (l : List Int) (w : World) (h : BytesAt w a l) (hlen : l.length ≤ 1048576) (hcap : l.length ≤ cap) :
    Calls Try.prog 24 #[.slice a l.length cap] w (DrewP w) := by
  go_enter Try.func24, Try.ntmps24
  go_wp2_with fail
  refine (l20Open_c a cap l _ (h.ext (by (repeat (first | exact Ext.refl _ | assumption | refine Ext.alloc ?_ _ | refine Ext.drewN ?_ _ | refine Ext.drew ?_)))) hlen hcap).mono ?_
  rintro e w1 ⟨g, rfl, hg, hr0, hx0⟩
  have hx1 := Lib.hid (Ext.trans (show Ext w _ by (repeat (first | exact Ext.refl _ | assumption | refine Ext.alloc ?_ _ | refine Ext.drewN ?_ _ | refine Ext.drew ?_))) hx0)
  have hg1 := hr0.lt
  have HC : Hid (∀ w', Ext w1 w' → Calls Try.prog 58 #[.pointer (some ⟨g, 0, none⟩), .int .i64 2, .int .i64 2] w' (DrewW w' g (0 + kw 2) 2)) := fun w' hx => l20Words_c 2 g 0 2 w' (hr0.ext hx) (by decide) (by decide)
  have HG : Hid (w.heap.size ≤ g) := hg
  clear hr0 hx0 h hg
  go_wp2_with fail
  refine (HC.out _ (by (repeat (first | exact Ext.refl _ | assumption | refine Ext.alloc ?_ _ | refine Ext.drewN ?_ _ | refine Ext.drew ?_)))).mono ?_
  rintro e w2 ⟨v, L, rfl, o, hL, -, -, ht⟩
  have hz1 := hx1.out.size
  go_wp2
  go_ret
  exact ⟨v, L, rfl, o.mono (by first | exact hz1 | (simp; exact hz1)), hL, ht.ext (hx1.out.trans (by (repeat (first | exact Ext.refl _ | assumption | refine Ext.alloc ?_ _ | refine Ext.drewN ?_ _ | refine Ext.drew ?_)))) HG.out⟩
set_option maxHeartbeats 1000000 in
theorem fnProgValid_c (a : Option Addr) (cap : Nat) (l : List Int) (w : World) (h : BytesAt w a l) (hlen : l.length ≤ 9223372036854775807) (hcap : l.length ≤ cap) :
    Calls Try.prog 5 #[.slice a l.length cap] w fun e w' => e = .returned (.bool true) ∧ Ext w w' := by
  by_cases hb : l.length ≤ 1048576
  · have HH := Lib.hid h
    clear h
    go_enter Try.func5, Try.ntmps5
    go_wp2_with fail
    refine (drawProgValid_c a cap l _ (HH.out.ext (by (repeat (first | exact Ext.refl _ | assumption | refine Ext.alloc ?_ _ | refine Ext.drewN ?_ _ | refine Ext.drew ?_)))) hb hcap).mono ?_
    rintro e w1 ⟨v1, L, rfl, o1, hL, y⟩
    have hx1 := Lib.hid (Ext.trans (show Ext w _ by (repeat (first | exact Ext.refl _ | assumption | refine Ext.alloc ?_ _ | refine Ext.drewN ?_ _ | refine Ext.drew ?_))) y)
    obtain ⟨a1, c1, rfl, -⟩ := o1.shape
    have O1 := Lib.hid o1
    clear o1 y HH
    go_wp2_with fail
    refine (iProgValid_c a1 c1 L _ (O1.out.ints.ext (by (repeat (first | exact Ext.refl _ | assumption | refine Ext.alloc ?_ _ | refine Ext.drewN ?_ _ | refine Ext.drew ?_)))) (by omega)).mono ?_
    rintro e w2 ⟨rfl, y⟩
    have hx2 := Lib.hid (hx1.out.trans (Ext.trans (show Ext w1 _ by (repeat (first | exact Ext.refl _ | assumption | refine Ext.alloc ?_ _ | refine Ext.drewN ?_ _ | refine Ext.drew ?_))) y))
    have O2 := Lib.hid (O1.out.ext (Ext.trans (show Ext w1 _ by (repeat (first | exact Ext.refl _ | assumption | refine Ext.alloc ?_ _ | refine Ext.drewN ?_ _ | refine Ext.drew ?_))) y))
    clear y O1 hx1
    go_wp2_with fail
    refine (sProgValid_c a1 c1 L _ (O2.out.ints.ext (by (repeat (first | exact Ext.refl _ | assumption | refine Ext.alloc ?_ _ | refine Ext.drewN ?_ _ | refine Ext.drew ?_)))) (by omega)).mono ?_
    rintro e w' ⟨rfl, rfl⟩
    have hz2 := hx2.out.size
    have P0 : Hid (pvB [] = false) := rfl
    cases hp : pvB L
    all_goals
      have HP := Lib.hid hp
      clear hp
      go_wp2_with (at_builtin; refine any_append_ints (by rfl) _ _ _ rfl (w2.heap.size) 3 Try.underlying22 infoInt _ ([]) rfl (by first | exact OwnI.empty _ _ | exact (OwnI.empty _ _).ext (by (repeat (first | exact Ext.refl _ | assumption | refine Ext.alloc ?_ _ | refine Ext.drewN ?_ _ | refine Ext.drew ?_)))) _ _ (L) rfl (O2.out.ints.ext (by (repeat (first | exact Ext.refl _ | assumption | refine Ext.alloc ?_ _ | refine Ext.drewN ?_ _ | refine Ext.drew ?_)))) (by first | omega | (simp; omega)) (by first | omega | (simp; done) | (simp; omega)) ?_)
      intro v3 w3 o3 g3
      have X3 := Lib.hid (Ext.row (w0 := w2) (show Ext w2 _ by (repeat (first | exact Ext.refl _ | assumption | refine Ext.alloc ?_ _ | refine Ext.drewN ?_ _ | refine Ext.drew ?_))) g3 (fun k hk => by simp [Value.ownBlock] at hk; omega))
      have hz3 := X3.out.size
      obtain ⟨a3, c3, rfl, -⟩ := o3.shape
      have O3 := Lib.hid o3
      clear o3 g3
      go_wp2_with (at_builtin; refine any_append_ints (by rfl) _ _ _ rfl (w2.heap.size) 3 Try.underlying22 infoInt _ (_) rfl (O3.out.ext (by (repeat (first | exact Ext.refl _ | assumption | refine Ext.alloc ?_ _ | refine Ext.drewN ?_ _ | refine Ext.drew ?_)))) _ _ ([210]) rfl (by first | exact (OwnI.lit1 _ _ _ _ (Nat.le_refl _)).ints | exact ((OwnI.lit1 _ _ _ _ (Nat.le_refl _)).ints).ext (by (repeat (first | exact Ext.refl _ | assumption | refine Ext.alloc ?_ _ | refine Ext.drewN ?_ _ | refine Ext.drew ?_)))) (by first | omega | (simp; omega)) (by first | omega | (simp; done) | (simp; omega)) ?_)
      intro v4 w4 o4 g4
      have X4 := Lib.hid (Ext.row (X3.out.trans (by (repeat (first | exact Ext.refl _ | assumption | refine Ext.alloc ?_ _ | refine Ext.drewN ?_ _ | refine Ext.drew ?_)))) g4 (fun k hk => (World.ownsRow.lt O3.out k hk).1))
      have hz4 := X4.out.size
      obtain ⟨M, hM, hlM⟩ := named (L ++ [210])
      rw [← hM.out] at o4
      rw [List.length_append] at hlM
      have hlM' : M.length ≤ 18 := by rw [hlM]; simp; omega
      obtain ⟨a4, c4, rfl, -⟩ := o4.shape
      have O4 := Lib.hid o4
      clear o4 g4 O3 X3 hlM
      have O24 := Lib.hid (O2.out.ext X4.out)
      have hx4 := Lib.hid (hx2.out.trans X4.out)
      clear X4
      go_wp2_with (at_builtin; refine any_append_ints (by rfl) _ _ _ rfl (w4.heap.size) 3 Try.underlying22 infoInt _ ([]) rfl (by first | exact OwnI.empty _ _ | exact (OwnI.empty _ _).ext (by (repeat (first | exact Ext.refl _ | assumption | refine Ext.alloc ?_ _ | refine Ext.drewN ?_ _ | refine Ext.drew ?_)))) _ _ (L) rfl (O24.out.ints.ext (by (repeat (first | exact Ext.refl _ | assumption | refine Ext.alloc ?_ _ | refine Ext.drewN ?_ _ | refine Ext.drew ?_)))) (by first | omega | (simp; omega)) (by first | omega | (simp; done) | (simp; omega)) ?_)
      intro v5 w5 o5 g5
      have X5 := Lib.hid (Ext.row (w0 := w4) (show Ext w4 _ by (repeat (first | exact Ext.refl _ | assumption | refine Ext.alloc ?_ _ | refine Ext.drewN ?_ _ | refine Ext.drew ?_))) g5 (fun k hk => by simp [Value.ownBlock] at hk; omega))
      have hz5 := X5.out.size
      obtain ⟨a5, c5, rfl, -⟩ := o5.shape
      have O5 := Lib.hid o5
      clear o5 g5
      go_wp2_with (at_builtin; refine any_append_ints (by rfl) _ _ _ rfl (w4.heap.size) 3 Try.underlying22 infoInt _ (_) rfl (O5.out.ext (by (repeat (first | exact Ext.refl _ | assumption | refine Ext.alloc ?_ _ | refine Ext.drewN ?_ _ | refine Ext.drew ?_)))) _ _ ([16]) rfl (by first | exact (OwnI.lit1 _ _ _ _ (Nat.le_refl _)).ints | exact ((OwnI.lit1 _ _ _ _ (Nat.le_refl _)).ints).ext (by (repeat (first | exact Ext.refl _ | assumption | refine Ext.alloc ?_ _ | refine Ext.drewN ?_ _ | refine Ext.drew ?_)))) (by first | omega | (simp; omega)) (by first | omega | (simp; done) | (simp; omega)) ?_)
      intro v6 w6 o6 g6
      have X6 := Lib.hid (Ext.row (X5.out.trans (by (repeat (first | exact Ext.refl _ | assumption | refine Ext.alloc ?_ _ | refine Ext.drewN ?_ _ | refine Ext.drew ?_)))) g6 (fun k hk => (World.ownsRow.lt O5.out k hk).1))
      have hz6 := X6.out.size
      obtain ⟨N, hN, hlN⟩ := named (L ++ [16])
      rw [← hN.out] at o6
      rw [List.length_append] at hlN
      have hlN' : N.length ≤ 18 := by rw [hlN]; simp; omega
      obtain ⟨a6, c6, rfl, -⟩ := o6.shape
      have O6 := Lib.hid o6
      clear o6 g6 O5 X5 hlN
      have O46 := Lib.hid (O4.out.ext X6.out)
      have hx6 := Lib.hid (hx4.out.trans X6.out)
      clear X6 O24 O4 hx4 O2 hx2
    · go_wp2_with fail
      refine (iProgValid_c none 0 [] _ (intsAt_none _) (by simp)).mono ?_
      rw [P0.out]
      rintro e w7 ⟨rfl, y⟩
      have hx7 := Lib.hid (hx6.out.trans (Ext.trans (show Ext w6 _ by (repeat (first | exact Ext.refl _ | assumption | refine Ext.alloc ?_ _ | refine Ext.drewN ?_ _ | refine Ext.drew ?_))) y))
      clear y
      go_wp2_with fail
      refine (kalive_c _).mono ?_
      rintro e w' ⟨rfl, rfl⟩
      go_wp2
      go_ret
      exact ⟨rfl, hx7.out.trans (by (repeat (first | exact Ext.refl _ | assumption | refine Ext.alloc ?_ _ | refine Ext.drewN ?_ _ | refine Ext.drew ?_)))⟩
    · have PN : Hid (pvB N = false) := by unfold Hid; rw [hN.out]; exact pvB_act HP.out
      go_wp2_with fail
      refine (iProgValid_c a6 c6 N _ (O6.out.ints.ext (by (repeat (first | exact Ext.refl _ | assumption | refine Ext.alloc ?_ _ | refine Ext.drewN ?_ _ | refine Ext.drew ?_)))) (by omega)).mono ?_
      rw [PN.out]
      rintro e w7 ⟨rfl, y⟩
      have hx7 := Lib.hid (hx6.out.trans (Ext.trans (show Ext w6 _ by (repeat (first | exact Ext.refl _ | assumption | refine Ext.alloc ?_ _ | refine Ext.drewN ?_ _ | refine Ext.drew ?_))) y))
      have O47 := Lib.hid (O46.out.ext (Ext.trans (show Ext w6 _ by (repeat (first | exact Ext.refl _ | assumption | refine Ext.alloc ?_ _ | refine Ext.drewN ?_ _ | refine Ext.drew ?_))) y))
      clear y O46 O6 hx6
      by_cases h16 : L.length = 16
      · have h16' : ((L.length : Int) == 16) = true := by simp; omega
        clear h16
        go_wp2_with fail
        refine (iProgValid_c none 0 [] _ (intsAt_none _) (by simp)).mono ?_
        rw [P0.out]
        rintro e w8 ⟨rfl, y⟩
        have hx8 := Lib.hid (hx7.out.trans (Ext.trans (show Ext w7 _ by (repeat (first | exact Ext.refl _ | assumption | refine Ext.alloc ?_ _ | refine Ext.drewN ?_ _ | refine Ext.drew ?_))) y))
        clear y
        go_wp2_with fail
        refine (kalive_c _).mono ?_
        rintro e w' ⟨rfl, rfl⟩
        go_wp2
        go_ret
        exact ⟨rfl, hx8.out.trans (by (repeat (first | exact Ext.refl _ | assumption | refine Ext.alloc ?_ _ | refine Ext.drewN ?_ _ | refine Ext.drew ?_)))⟩
      · have h16' : ((L.length : Int) == 16) = false := by simp; omega
        have PM : Hid (pvB M = true) := by unfold Hid; rw [hM.out]; exact pvB_loop HP.out h16
        clear h16
        go_wp2_with fail
        refine (iProgValid_c a4 c4 M _ (O47.out.ints.ext (by (repeat (first | exact Ext.refl _ | assumption | refine Ext.alloc ?_ _ | refine Ext.drewN ?_ _ | refine Ext.drew ?_)))) (by omega)).mono ?_
        rw [PM.out]
        rintro e w9 ⟨rfl, y⟩
        have hx9 := Lib.hid (hx7.out.trans (Ext.trans (show Ext w7 _ by (repeat (first | exact Ext.refl _ | assumption | refine Ext.alloc ?_ _ | refine Ext.drewN ?_ _ | refine Ext.drew ?_))) y))
        clear y
        go_wp2_with fail
        refine (iProgValid_c none 0 [] _ (intsAt_none _) (by simp)).mono ?_
        rw [P0.out]
        rintro e w8 ⟨rfl, y⟩
        have hx8 := Lib.hid (hx9.out.trans (Ext.trans (show Ext w9 _ by (repeat (first | exact Ext.refl _ | assumption | refine Ext.alloc ?_ _ | refine Ext.drewN ?_ _ | refine Ext.drew ?_))) y))
        clear y
        go_wp2_with fail
        refine (kalive_c _).mono ?_
        rintro e w' ⟨rfl, rfl⟩
        go_wp2
        go_ret
        exact ⟨rfl, hx8.out.trans (by (repeat (first | exact Ext.refl _ | assumption | refine Ext.alloc ?_ _ | refine Ext.drewN ?_ _ | refine Ext.drew ?_)))⟩
  · go_enter Try.func5, Try.ntmps5
    go_wp2
    go_ret
    exact ⟨rfl, Ext.refl _⟩
end Go.Proofs.Ytnhdachenckceaa
