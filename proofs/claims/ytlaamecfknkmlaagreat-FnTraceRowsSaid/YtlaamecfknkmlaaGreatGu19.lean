/- Merged texts: contracts and plain lemmas (S). -/
import Derived.Test.YtlaamecfknkmlaaGreatGu15
import Derived.Deep.RegionLaw
/- Contracts: rows drawn. (under way: does not build whole yet) -/
namespace Go.Proofs.YtlaamecfknkmlaaGreat
set_option linter.unusedVariables false
open Go.RowKit Go.Kt

/-- What drawing rows comes to. -/
def DrewRows (w : World) (g m s : Nat) (e : Ending) (w' : World) : Prop :=
  ∃ v L, e = .returned v ∧ OwnI w' w.heap.size 3 v L ∧ s ≤ L.length ∧ L.length ≤ s + 1 ∧ Rd w' g (m + 100) ∧ Touched w w' g (g + 1)
theorem DrewRows.stored {w w3 w' : World} {g m s m' gv cv : Nat} {L : List Int} {u : Int} (ho3 : OwnI w3 w.heap.size 3 (.slice (some ⟨gv, 0, none⟩) L.length cv) L) (hL : L.length = s) (hrd : Rd w3 g m') (hm : m' ≤ m + 100)
    (ht : Touched w w3 g (g + 1)) (hg : g < w.heap.size) (hgv : w.heap.size ≤ gv) (hx : Ext (w3.setCell ⟨gv, 0, none⟩ (.int .i64 u)) w') : DrewRows w g m s (.returned (.slice (some ⟨gv, 0, none⟩) s cv)) w' := by
  subst hL
  have hgr : w3.grownBy (w3.setCell ⟨gv, 0, none⟩ (.int .i64 u)) (some gv) := grown_setCell ((Ext.refl w3).grown (some gv)) rfl
  have h1 : OwnI w' w.heap.size 3 (.slice (some ⟨gv, 0, none⟩) L.length cv) (L.set 0 u) := by
    have := OwnI.ext (OwnI.set ho3 0 u) hx
    rw [List.length_set] at this
    exact this
  refine ⟨_, L.set 0 u, rfl, h1, by simp, by simp, ((Rd.row hrd hgr ?_).mono hm).ext hx, (Touched.row ht hgr ?_).trans (Touched.of_ext hx)⟩
  · intro k hk
    obtain rfl := Option.some.inj hk
    omega
  · intro k hk
    obtain rfl := Option.some.inj hk
    exact hgv
set_option maxHeartbeats 1000000 in
theorem l20Rows_c (g m s : Nat) (n : Int) (w : World) (h : Rd w g m) (hm : m ≤ 100000) (hs : s ≤ 6) (hs0 : 1 ≤ s) :
    Calls Tryz.prog 150 #[.pointer (some ⟨g, 0, none⟩), .int .i64 s, .int .i64 n] w (DrewRows w g m s) := by
  have hg := h.lt
  have HH := Lib.hid h
  clear h
  go_enter Tryz.func150, Tryz.ntmps150
  go_wp2
  go_loopw [7, 8] (fun v i wr => Hid (∃ (k : Nat) (L : List Int), k ≤ s ∧ i = .int .i64 k ∧ L.length = k ∧ OwnI wr w.heap.size 3 v L ∧ Rd wr g (m + 2 * k) ∧ Touched w wr g (g + 1))) (fun _ i _ => s - (intOf i).toNat)
  case atStart => exact Lib.hid ⟨0, [], Nat.zero_le _, rfl, rfl, OwnI.empty _ _, HH.out.ext (by (repeat (first | exact Ext.refl _ | assumption | refine Ext.alloc ?_ _ | refine Ext.drewN ?_ _ | refine Ext.drew ?_))), Touched.of_ext (by (repeat (first | exact Ext.refl _ | assumption | refine Ext.alloc ?_ _ | refine Ext.drewN ?_ _ | refine Ext.drew ?_)))⟩
  case round =>
    obtain ⟨k, L, hk, rfl, hL, ho, hrd, ht⟩ := hrel.out
    clear hrel
    by_cases hlt : k < s
    · go_wp2_with fail
      refine (pick_c g _ 3 _ hrd (by omega)).mono ?_
      rintro e w1 ⟨x, rfl, hx, hrd1, ht1⟩
      replace ho := OwnI.drawn (ho.ext (by (repeat (first | exact Ext.refl _ | assumption | refine Ext.alloc ?_ _ | refine Ext.drewN ?_ _ | refine Ext.drew ?_)))) ht1 hg
      have ht2 := ht.trans (Touched.trans (Touched.of_ext (by (repeat (first | exact Ext.refl _ | assumption | refine Ext.alloc ?_ _ | refine Ext.drewN ?_ _ | refine Ext.drew ?_)))) ht1)
      have hpc := pow2_cast s
      have hps : pow2 s ≤ 64 := pow2_le s 6 hs
      clear hrd ht1
      by_cases hx0 : x = 0
      · subst hx0
        go_wp2_with fail
        refine (pick_c g _ _ _ hrd1 (by omega)).mono ?_
        rintro e w2 ⟨y, rfl, hy, hrd2, ht3⟩
        replace ho := OwnI.drawn (ho.ext (by (repeat (first | exact Ext.refl _ | assumption | refine Ext.alloc ?_ _ | refine Ext.drewN ?_ _ | refine Ext.drew ?_)))) ht3 hg
        have ht4 := ht2.trans (Touched.trans (Touched.of_ext (by (repeat (first | exact Ext.refl _ | assumption | refine Ext.alloc ?_ _ | refine Ext.drewN ?_ _ | refine Ext.drew ?_)))) ht3)
        have hz4 := ht4.size
        clear hrd1 ht2 ht ht3
        go_wp2_with (at_builtin; refine append_int rfl _ _ _ rfl w.heap.size 3 Tryz.underlying23 infoInt _ (L) rfl ?ho _ (((y : Nat) : Int)) rfl ?hc ?c1 ?c2 ?_)
        case ho => exact ho.ext (by (repeat (first | exact Ext.refl _ | assumption | refine Ext.alloc ?_ _ | refine Ext.drewN ?_ _ | refine Ext.drew ?_)))
        try (case hc => first | exact cell_new0 _ _ _ | simp)
        case c1 => omega
        case c2 => simp; omega
        intro v' w' ho' hg'
        go_wp2
        go_roundw
        case rel =>
          have hb := fun k hk' => (World.ownsRow.lt ho k hk').1
          exact Lib.hid ⟨k + 1, L ++ [((y : Nat) : Int)], by omega, by go_num, by simp; omega, ho', Rd.row ((hrd2.ext (by (repeat (first | exact Ext.refl _ | assumption | refine Ext.alloc ?_ _ | refine Ext.drewN ?_ _ | refine Ext.drew ?_)))).mono (by omega)) hg' (fun k hk' => by have := hb k hk'; omega), Touched.row (ht4.trans (Touched.of_ext (by (repeat (first | exact Ext.refl _ | assumption | refine Ext.alloc ?_ _ | refine Ext.drewN ?_ _ | refine Ext.drew ?_))))) hg' hb⟩
        case measure => simp [intOf]; omega
      · go_wp2_with fail
        refine (pick_c g _ _ _ hrd1 (by omega)).mono ?_
        rintro e w2 ⟨y, rfl, hy, hrd2, ht3⟩
        replace ho := OwnI.drawn (ho.ext (by (repeat (first | exact Ext.refl _ | assumption | refine Ext.alloc ?_ _ | refine Ext.drewN ?_ _ | refine Ext.drew ?_)))) ht3 hg
        have ht4 := ht2.trans (Touched.trans (Touched.of_ext (by (repeat (first | exact Ext.refl _ | assumption | refine Ext.alloc ?_ _ | refine Ext.drewN ?_ _ | refine Ext.drew ?_)))) ht3)
        have hz4 := ht4.size
        have hpy := pow2_cast y
        have hyl : y ≤ 6 := by omega
        have hp1 : pow2 y ≤ 64 := pow2_le y 6 hyl
        clear hrd1 ht2 ht ht3
        go_wp2_with (at_builtin; refine append_int rfl _ _ _ rfl w.heap.size 3 Tryz.underlying23 infoInt _ (L) rfl ?ho _ (((pow2 y : Nat) : Int)) rfl ?hc ?c1 ?c2 ?_)
        case ho => exact ho.ext (by (repeat (first | exact Ext.refl _ | assumption | refine Ext.alloc ?_ _ | refine Ext.drewN ?_ _ | refine Ext.drew ?_)))
        try (case hc => first | exact cell_new0 _ _ _ | simp)
        case c1 => omega
        case c2 => simp; omega
        intro v' w' ho' hg'
        go_wp2
        go_roundw
        case rel =>
          have hb := fun k hk' => (World.ownsRow.lt ho k hk').1
          exact Lib.hid ⟨k + 1, L ++ [((pow2 y : Nat) : Int)], by omega, by go_num, by simp; omega, ho', Rd.row ((hrd2.ext (by (repeat (first | exact Ext.refl _ | assumption | refine Ext.alloc ?_ _ | refine Ext.drewN ?_ _ | refine Ext.drew ?_)))).mono (by omega)) hg' (fun k hk' => by have := hb k hk'; omega), Touched.row (ht4.trans (Touched.of_ext (by (repeat (first | exact Ext.refl _ | assumption | refine Ext.alloc ?_ _ | refine Ext.drewN ?_ _ | refine Ext.drew ?_))))) hg' hb⟩
        case measure => simp [intOf]; omega
    · obtain rfl : k = s := by omega
      go_wp2_with fail
      refine (odd_c g _ n _ hrd (by omega)).mono ?_
      rintro e w1 ⟨b, rfl, hrd1, ht1⟩
      replace ho := OwnI.drawn (ho.ext (by (repeat (first | exact Ext.refl _ | assumption | refine Ext.alloc ?_ _ | refine Ext.drewN ?_ _ | refine Ext.drew ?_)))) ht1 hg
      have ht2 := ht.trans (Touched.trans (Touched.of_ext (by (repeat (first | exact Ext.refl _ | assumption | refine Ext.alloc ?_ _ | refine Ext.drewN ?_ _ | refine Ext.drew ?_)))) ht1)
      clear hrd ht ht1
      cases b
      · go_wp2
        go_ret
        exact ⟨_, _, rfl, ho, by omega, by omega, hrd1.mono (by omega), ht2⟩
      · go_wp2_with fail
        refine (pick_c g _ 2 _ hrd1 (by omega)).mono ?_
        rintro e w2 ⟨y, rfl, hy, hrd2, ht3⟩
        replace ho := OwnI.drawn (ho.ext (by (repeat (first | exact Ext.refl _ | assumption | refine Ext.alloc ?_ _ | refine Ext.drewN ?_ _ | refine Ext.drew ?_)))) ht3 hg
        have ht4 := ht2.trans (Touched.trans (Touched.of_ext (by (repeat (first | exact Ext.refl _ | assumption | refine Ext.alloc ?_ _ | refine Ext.drewN ?_ _ | refine Ext.drew ?_)))) ht3)
        have hz4 := ht4.size
        have hpc := pow2_cast k
        have hps : pow2 k ≤ 64 := pow2_le k 6 hs
        clear hrd1 ht2 ht3
        by_cases hy0 : y = 0
        · subst hy0
          go_wp2_with (at_builtin; refine append_int rfl _ _ _ rfl w.heap.size 3 Tryz.underlying23 infoInt _ (L) rfl ?ho _ (0) rfl ?hc ?c1 ?c2 ?_)
          case ho => exact ho.ext (by (repeat (first | exact Ext.refl _ | assumption | refine Ext.alloc ?_ _ | refine Ext.drewN ?_ _ | refine Ext.drew ?_)))
          try (case hc => first | exact cell_new0 _ _ _ | simp)
          case c1 => omega
          case c2 => simp; omega
          intro v' w' ho' hg'
          have hb := fun k hk' => (World.ownsRow.lt ho k hk').1
          have HR2 := Lib.hid (Rd.row ((hrd2.ext (by (repeat (first | exact Ext.refl _ | assumption | refine Ext.alloc ?_ _ | refine Ext.drewN ?_ _ | refine Ext.drew ?_)))).mono (m' := m + 100) (by omega)) hg' (fun k hk' => by have := hb k hk'; omega))
          have HT2 := Lib.hid (Touched.row (ht4.trans (Touched.of_ext (by (repeat (first | exact Ext.refl _ | assumption | refine Ext.alloc ?_ _ | refine Ext.drewN ?_ _ | refine Ext.drew ?_))))) hg' hb)
          clear hb hrd2 ht4 hg'
          go_wp2
          go_ret
          exact ⟨_, _, rfl, ho', by simp; omega, by simp; omega, HR2.out, HT2.out⟩
        · obtain ⟨gv, cv, rfl, hz5, hcl⟩ := OwnI.row ho (by omega)
          go_wp2
          have hk0 : 0 < k := by omega
          have hwr : IntKind.i64.wrap ((pow2 k : Nat) : Int) = ((pow2 k : Nat) : Int) := IntWalk.i64_in _ (by omega)
          go_region_law ((first
            | (go_simp; go_at_call 54; refine (pick_c g _ 2 _ (hrd2.ext (by (repeat (first | exact Ext.refl _ | assumption | refine Ext.alloc ?_ _ | refine Ext.drewN ?_ _ | refine Ext.drew ?_)))) (by omega)).mono ?_; rintro e w3 ⟨z, rfl, hz, hrd3, ht5⟩
               have hz2 : (z : Int) < 2 := by omega
               obtain ⟨u, hu⟩ : ∃ u : Int, (#[Value.int .i64 (-1), Value.int .i64 ((pow2 k : Nat) : Int)] : Array Value)[z]? = some (.int .i64 u) := by
                 rcases (show z = 0 ∨ z = 1 by omega) with rfl | rfl
                 · exact ⟨-1, rfl⟩
                 · exact ⟨_, rfl⟩
               first
                 | (have hcz : w3.cell? ⟨w2.heap.size, z, none⟩ = some (.int .i64 u) := (World.cell?_of_block (a := ⟨w2.heap.size, z, none⟩) (ht5.block w2.heap.size (by simp) (.inr (by have := hrd2.lt; omega)))).trans (cell_new2 _ _ _ _ _ _ hu))
                 | (have hcz : (w3.alloc (.cells #[Value.int .i64 (-1), Value.int .i64 ((pow2 k : Nat) : Int)] 3)).cell? ⟨w3.heap.size, z, none⟩ = some (.int .i64 u) := cell_new2 _ _ _ _ _ _ hu)
               have ho3 := OwnI.drawn (OwnI.ext ho (by (repeat (first | exact Ext.refl _ | assumption | refine Ext.alloc ?_ _ | refine Ext.drewN ?_ _ | refine Ext.drew ?_)))) ht5 hg
               obtain ⟨gw, cw, hve, hz6, hgs, hcl3, hfr3⟩ := OwnI.row ho3 (by omega)
               obtain ⟨rfl, rfl⟩ : gv = gw ∧ cv = cw := by simpa using hve
               have hc0 := hcl3 0 (by omega)
               have hf0 := hfr3 0
               have ht6 := ht4.trans (Touched.trans (Touched.of_ext (by (repeat (first | exact Ext.refl _ | assumption | refine Ext.alloc ?_ _ | refine Ext.drewN ?_ _ | refine Ext.drew ?_)))) ht5)
               clear hve hcl3 hfr3)))
          all_goals
            go_wp2
            go_ret
            exact DrewRows.stored ho3 hL hrd3 (by omega) ht6 hg hz6 (by (repeat (first | exact Ext.refl _ | assumption | refine Ext.alloc ?_ _ | refine Ext.drewN ?_ _ | refine Ext.drew ?_)))
end Go.Proofs.YtlaamecfknkmlaaGreat
