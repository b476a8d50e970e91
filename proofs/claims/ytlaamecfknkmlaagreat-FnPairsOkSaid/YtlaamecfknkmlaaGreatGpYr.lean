/- Merged texts: contracts and plain lemmas (Yr). -/
import Derived.Test.YtlaamecfknkmlaaGreatGpYq
namespace Go.Proofs.YtlaamecfknkmlaaGreat
set_option linter.unusedVariables false
open Go.RowKit Go.Kt

/-- An expression and a trace drawn. -/
def DrewEE (w : World) (g m : Nat) (e : Ending) (w' : World) : Prop :=
  ∃ (v1 v2 : Value) (L1 L2 : List Int), e = .returned (.tuple #[v1, v2]) ∧ OwnI w' w.heap.size 3 v1 L1 ∧ OwnI w' w.heap.size 3 v2 L2 ∧ L1.length ≤ 41 ∧ L2.length ≤ 43 ∧ Rd w' g m ∧ Touched w w' g (g + 1)
theorem WordSt.two {w wr : World} {g m m' : Nat} {v1 v2 : Value} {L1 L2 : List Int} (h : WordSt w wr g m v1 L1) (k : WordSt w wr g m' v2 L2) (h1 : L1.length ≤ 41) (h2 : L2.length ≤ 43) {M : Nat} (hM : m' ≤ M) : DrewEE w g M (.returned (.tuple #[v1, v2])) wr :=
  ⟨v1, v2, L1, L2, rfl, h.own, k.own, h1, h2, k.rd.mono hM, k.tch⟩
theorem OwnI.setn {w : World} {B E g cap n : Nat} {l : List Int} (h : OwnI w B E (.slice (some ⟨g, 0, none⟩) n cap) l) (hn : l.length = n) (k : Nat) (u : Int) :
    OwnI (w.setCell ⟨g, k, none⟩ (.int .i64 u)) B E (.slice (some ⟨g, 0, none⟩) n cap) (l.set k u) := by
  subst hn
  have h1 := h.set k u
  rw [List.length_set] at h1
  exact h1
theorem OwnI.setg {w : World} {B E g cap n : Nat} {l : List Int} (h : OwnI w B E (.slice (some ⟨g, 0, none⟩) n cap) l) (hn : l.length = n) (k : Nat) (u : Int) :
    w.grownBy (w.setCell ⟨g, k, none⟩ (.int .i64 u)) (some g) := by
  subst hn
  exact (World.ownsRow.stored h k (.int .i64 u)).2
set_option maxRecDepth 100000 in
set_option maxHeartbeats 4000000 in
theorem l20Told_c (g m p : Nat) (w : World) (h : Rd w g m) (hp : p ≤ 12) (hm : m ≤ 50000) :
    Calls Tryz.prog 65 #[.pointer (some ⟨g, 0, none⟩), .int .i64 (p : Int)] w (DrewEE w g (m + 1000)) := by
  have hg := h.lt
  have HH := Lib.hid h
  clear h
  go_enter Tryz.func65, Tryz.ntmps65
  go_wp2_with fail
  refine (l20Kat_c g m p 12 _ (HH.out.ext (by (repeat (first | exact Ext.refl _ | assumption | refine Ext.alloc ?_ _ | refine Ext.drewN ?_ _ | refine Ext.drew ?_)))) hp (by omega)).mono ?_
  rintro e w1 ⟨v1, L1, rfl, o1, hl1, hr1, ht1⟩
  have H1 : Hid (WordSt w w1 g (m + 160) v1 L1) := ⟨hg, o1, hr1, ht1⟩
  obtain ⟨a1, c1, rfl⟩ := H1.out.shape
  have hz1 := ht1.size
  clear o1 hr1 ht1
  go_wp2_with fail
  refine (sKatValid_c a1 c1 L1 _ (H1.out.own.ints.ext (by (repeat (first | exact Ext.refl _ | assumption | refine Ext.alloc ?_ _ | refine Ext.drewN ?_ _ | refine Ext.drew ?_)))) (by omega)).mono ?_
  rintro e w2 ⟨rfl, rfl⟩
  cases hk : kvB L1
  · clear hk
    go_wp2_with fail
    refine (l20Trace_c g _ 3 12 _ (H1.out.rd.ext (by (repeat (first | exact Ext.refl _ | assumption | refine Ext.alloc ?_ _ | refine Ext.drewN ?_ _ | refine Ext.drew ?_)))) (by omega) (by omega)).mono ?_
    rintro e w3 ⟨v3, L3, rfl, o3, hl3, hr3, ht3⟩
    have H3 := Lib.hid (H1.out.drawn (by (repeat (first | exact Ext.refl _ | assumption | refine Ext.alloc ?_ _ | refine Ext.drewN ?_ _ | refine Ext.drew ?_))) ht3 hr3)
    have K3 : Hid (WordSt w w3 g (m + 160 + 20) v3 L3) := ⟨hg, OwnI.mono o3 (by (try simp); omega), hr3, H3.out.tch⟩
    clear o3 hr3 ht3
    go_wp2
    go_ret2
    exact (H3.out.ext (by (repeat (first | exact Ext.refl _ | assumption | refine Ext.alloc ?_ _ | refine Ext.drewN ?_ _ | refine Ext.drew ?_)))).two (K3.out.ext (by (repeat (first | exact Ext.refl _ | assumption | refine Ext.alloc ?_ _ | refine Ext.drewN ?_ _ | refine Ext.drew ?_)))) hl1 hl3 (by omega)
  · obtain ⟨t, htg, htw⟩ := kvB_tree hk
    have hl40 := (kvB_len hk).2
    have hl0 := (kvB_len hk).1
    clear hk
    go_wp2_with fail
    refine (pick_c g _ 3 _ (H1.out.rd.ext (by (repeat (first | exact Ext.refl _ | assumption | refine Ext.alloc ?_ _ | refine Ext.drewN ?_ _ | refine Ext.drew ?_)))) (by omega)).mono ?_
    rintro e w2 ⟨y, rfl, hy, hr2, ht2⟩
    have H2 := Lib.hid (H1.out.drawn (by (repeat (first | exact Ext.refl _ | assumption | refine Ext.alloc ?_ _ | refine Ext.drewN ?_ _ | refine Ext.drew ?_))) ht2 hr2)
    have hz2 := H2.out.tch.size
    clear hr2 ht2 hy H1
    by_cases hy0 : y = 0
    · subst hy0
      go_wp2_with fail
      refine (l20Trace_c g _ 3 12 _ (H2.out.rd.ext (by (repeat (first | exact Ext.refl _ | assumption | refine Ext.alloc ?_ _ | refine Ext.drewN ?_ _ | refine Ext.drew ?_)))) (by omega) (by omega)).mono ?_
      rintro e w3 ⟨v3, L3, rfl, o3, hl3, hr3, ht3⟩
      have H3 := Lib.hid (H2.out.drawn (by (repeat (first | exact Ext.refl _ | assumption | refine Ext.alloc ?_ _ | refine Ext.drewN ?_ _ | refine Ext.drew ?_))) ht3 hr3)
      have K3 : Hid (WordSt w w3 g (m + 160 + 1 + 20) v3 L3) := ⟨hg, OwnI.mono o3 (by (try simp); omega), hr3, H3.out.tch⟩
      clear o3 hr3 ht3
      go_wp2
      go_ret2
      exact (H3.out.ext (by (repeat (first | exact Ext.refl _ | assumption | refine Ext.alloc ?_ _ | refine Ext.drewN ?_ _ | refine Ext.drew ?_)))).two (K3.out.ext (by (repeat (first | exact Ext.refl _ | assumption | refine Ext.alloc ?_ _ | refine Ext.drewN ?_ _ | refine Ext.drew ?_)))) hl1 hl3 (by omega)
    · have hyb : ((y : Int) == 0) = false := by simp; omega
      obtain ⟨b, cb', hva, hBb, -⟩ := H2.out.own.row (by omega)
      obtain rfl : a1 = some ⟨b, 0, none⟩ := by simp at hva; exact hva.1
      have hfit := OwnI.fit H2.out.own
      have hkk := kof_le (n := L1.length) (d := 2) hl40 (Nat.le_refl _)
      have hll := lof_le (n := L1.length) (d := 2) hl40 (Nat.le_refl _)
      have CO : Hid (∀ w', Ext w2 w' → Calls Tryz.prog 124 #[.pointer (some ⟨g, 0, none⟩), .slice (some ⟨b, 0, none⟩) L1.length c1, .int .i64 2] w' (DrewO w' g (m + 160 + 1 + kof L1.length 2) (lof L1.length 2))) := fun w' x => by
        subst htw
        exact l20Of_c t htg hl40 2 (Nat.le_refl _) g _ b 0 c1 w' (H2.out.rd.ext x) (by omega) (by omega) (H2.out.own.ints.ext x) hfit
      generalize kof L1.length 2 = K at *
      generalize lof L1.length 2 = N at *
      clear htg htw hva hfit t
      go_wp2_with fail
      refine (CO.out _ (by (repeat (first | exact Ext.refl _ | assumption | refine Ext.alloc ?_ _ | refine Ext.drewN ?_ _ | refine Ext.drew ?_)))).mono ?_
      rintro e w3 ⟨v3, L3, rfl, ws3, hl3, ho3⟩
      have H3 := Lib.hid (H2.out.drawn (by (repeat (first | exact Ext.refl _ | assumption | refine Ext.alloc ?_ _ | refine Ext.drewN ?_ _ | refine Ext.drew ?_))) ws3.tch ws3.rd)
      have K3 := Lib.hid ((H2.out.ext (by (repeat (first | exact Ext.refl _ | assumption | refine Ext.alloc ?_ _ | refine Ext.drewN ?_ _ | refine Ext.drew ?_)))).rebase ws3)
      obtain ⟨a3, c3, rfl⟩ := K3.out.shape
      have hbg : ∀ g', a3 = some ⟨g', 0, none⟩ → b < g' := fun g' hg' => by
        subst hg'
        have h1 := (World.ownsRow.lt ws3.own g' rfl).1
        have h2 := (World.ownsRow.lt H2.out.own b rfl).2
        (try simp at h1)
        omega
      clear ws3 H2 CO
      have o3 := K3.out.own
      obtain ⟨g3, c3', hv3, -, -, -, -⟩ := o3.row (by omega)
      obtain rfl : a3 = some ⟨g3, 0, none⟩ := by simp at hv3; exact hv3.1
      have hfit3 := OwnI.fit o3
      have hne : b < g3 := hbg g3 rfl
      clear hv3 hbg
      by_cases h41 : 41 < L3.length
      · obtain ⟨T, xs, rfl, hT⟩ : ∃ us xs, L3 = us ++ xs ∧ us.length = 41 := ⟨L3.take 41, L3.drop 41, (List.take_append_drop 41 L3).symm, by rw [List.length_take]; omega⟩
        have K4 : Hid (WordSt w w3 g (m + 160 + 1 + K) (.slice (some ⟨g3, 0, none⟩) 41 c3) T) := K3.out.other (Ext.refl _) (by rw [← hT]; exact OwnI.cut o3)
        have hi41 : (41 : Int) < ((T ++ xs).length : Int) := by omega
        have h41c : (41 : Int) ≤ (c3 : Int) := by omega
        clear o3 K3
        generalize (T ++ xs).length = n3 at *
        go_wp2_with fail
        refine (pick_c g _ 5 _ (H3.out.rd.ext (by (repeat (first | exact Ext.refl _ | assumption | refine Ext.alloc ?_ _ | refine Ext.drewN ?_ _ | refine Ext.drew ?_)))) (by omega)).mono ?_
        rintro e w5 ⟨z, rfl, hz, hr5, ht5⟩
        have H5 := Lib.hid (H3.out.drawn (by (repeat (first | exact Ext.refl _ | assumption | refine Ext.alloc ?_ _ | refine Ext.drewN ?_ _ | refine Ext.drew ?_))) ht5 hr5)
        have K5 := Lib.hid (K4.out.drawn (by (repeat (first | exact Ext.refl _ | assumption | refine Ext.alloc ?_ _ | refine Ext.drewN ?_ _ | refine Ext.drew ?_))) ht5 hr5)
        clear hr5 ht5 H3 K4
        by_cases hz0 : z = 0
        · subst hz0
          go_wp2_with fail
          refine (pick_c g _ _ _ (H5.out.rd.ext (by (repeat (first | exact Ext.refl _ | assumption | refine Ext.alloc ?_ _ | refine Ext.drewN ?_ _ | refine Ext.drew ?_)))) (by omega)).mono ?_
          rintro e w6 ⟨x, rfl, hx, hr6, ht6⟩
          have H6 := Lib.hid (H5.out.drawn (by (repeat (first | exact Ext.refl _ | assumption | refine Ext.alloc ?_ _ | refine Ext.drewN ?_ _ | refine Ext.drew ?_))) ht6 hr6)
          have K6 := Lib.hid (K5.out.drawn (by (repeat (first | exact Ext.refl _ | assumption | refine Ext.alloc ?_ _ | refine Ext.drewN ?_ _ | refine Ext.drew ?_))) ht6 hr6)
          have hx2 : 2 * x < T.length := by omega
          have hwx : IntKind.i64.wrap ((x : Int) * 2) = ((2 * x : Nat) : Int) := by rw [IntWalk.i64_in _ (by omega)]; omega
          clear hr6 ht6 H5 K5 hx
          go_wp2_with fail
          refine (pick_c g _ 4 _ (H6.out.rd.ext (by (repeat (first | exact Ext.refl _ | assumption | refine Ext.alloc ?_ _ | refine Ext.drewN ?_ _ | refine Ext.drew ?_)))) (by omega)).mono ?_
          rintro e w7 ⟨u, rfl, hu, hr7, ht7⟩
          have H7 := Lib.hid (H6.out.drawn (by (repeat (first | exact Ext.refl _ | assumption | refine Ext.alloc ?_ _ | refine Ext.drewN ?_ _ | refine Ext.drew ?_))) ht7 hr7)
          have K7 := Lib.hid (K6.out.drawn (by (repeat (first | exact Ext.refl _ | assumption | refine Ext.alloc ?_ _ | refine Ext.drewN ?_ _ | refine Ext.drew ?_))) ht7 hr7)
          clear hr7 ht7 H6 K6 hu
          have k7 := K7.out.own
          obtain ⟨g7, c7, hv7, -, zg7, hc7, hf7⟩ := k7.row (by omega)
          have d7 := hc7 (2 * x) hx2
          have f7 := hf7 (2 * x)
          obtain rfl : g3 = g7 := by simp at hv7; exact hv7.1
          have hset := OwnI.setn k7 (by first | exact hT | rfl) (2 * x) (u : Int)
          have hgrw : w7.grownBy (w7.setCell ⟨g3, 2 * x, none⟩ (.int .i64 u)) (some g3) := OwnI.setg k7 (by first | exact hT | rfl) (2 * x) (u : Int)
          have K8 := Lib.hid (K7.out.more (Ext.refl _) k7 hset hgrw)
          have H8 : Hid (OwnI (w7.setCell ⟨g3, 2 * x, none⟩ (.int .i64 u)) w.heap.size 3 (.slice (some ⟨b, 0, none⟩) L1.length c1) L1) := World.ownsRow.kept H7.out.own hgrw (.inr (by simp [Value.ownBlock]; omega))
          clear k7 hset hgrw hc7 hf7 hv7
          go_wp2
          go_ret2
          exact ⟨_, _, L1, T.set (2 * x) (u : Int), rfl, H8.out.ext (by (repeat (first | exact Ext.refl _ | assumption | refine Ext.alloc ?_ _ | refine Ext.drewN ?_ _ | refine Ext.drew ?_))), K8.out.own.ext (by (repeat (first | exact Ext.refl _ | assumption | refine Ext.alloc ?_ _ | refine Ext.drewN ?_ _ | refine Ext.drew ?_))), hl1, by rw [List.length_set]; omega, (K8.out.rd.ext (by (repeat (first | exact Ext.refl _ | assumption | refine Ext.alloc ?_ _ | refine Ext.drewN ?_ _ | refine Ext.drew ?_)))).mono (by omega), (K8.out.ext (by (repeat (first | exact Ext.refl _ | assumption | refine Ext.alloc ?_ _ | refine Ext.drewN ?_ _ | refine Ext.drew ?_)))).tch⟩
        · have hzb : ((z : Int) == 0) = false := by simp; omega
          go_wp2
          go_ret2
          exact (H5.out.ext (by (repeat (first | exact Ext.refl _ | assumption | refine Ext.alloc ?_ _ | refine Ext.drewN ?_ _ | refine Ext.drew ?_)))).two (K5.out.ext (by (repeat (first | exact Ext.refl _ | assumption | refine Ext.alloc ?_ _ | refine Ext.drewN ?_ _ | refine Ext.drew ?_)))) hl1 (by omega) (by omega)
      · have K4 := Lib.hid K3.out
        obtain ⟨T, hT⟩ : ∃ T, T = L3 := ⟨_, rfl⟩
        subst hT
        have hq : ((T.length : Nat) : Int).tdiv 2 = ((T.length / 2 : Nat) : Int) := rfl
        have hwq : IntKind.i64.wrap (((T.length / 2 : Nat) : Int) + 1) = ((T.length / 2 : Nat) : Int) + 1 := IntWalk.i64_in _ (by omega)
        clear o3 K3
        go_wp2_with fail
        refine (pick_c g _ 5 _ (H3.out.rd.ext (by (repeat (first | exact Ext.refl _ | assumption | refine Ext.alloc ?_ _ | refine Ext.drewN ?_ _ | refine Ext.drew ?_)))) (by omega)).mono ?_
        rintro e w5 ⟨z, rfl, hz, hr5, ht5⟩
        have H5 := Lib.hid (H3.out.drawn (by (repeat (first | exact Ext.refl _ | assumption | refine Ext.alloc ?_ _ | refine Ext.drewN ?_ _ | refine Ext.drew ?_))) ht5 hr5)
        have K5 := Lib.hid (K4.out.drawn (by (repeat (first | exact Ext.refl _ | assumption | refine Ext.alloc ?_ _ | refine Ext.drewN ?_ _ | refine Ext.drew ?_))) ht5 hr5)
        clear hr5 ht5 H3 K4
        by_cases hz0 : z = 0
        · subst hz0
          go_wp2_with fail
          refine (pick_c g _ _ _ (H5.out.rd.ext (by (repeat (first | exact Ext.refl _ | assumption | refine Ext.alloc ?_ _ | refine Ext.drewN ?_ _ | refine Ext.drew ?_)))) (by omega)).mono ?_
          rintro e w6 ⟨x, rfl, hx, hr6, ht6⟩
          have H6 := Lib.hid (H5.out.drawn (by (repeat (first | exact Ext.refl _ | assumption | refine Ext.alloc ?_ _ | refine Ext.drewN ?_ _ | refine Ext.drew ?_))) ht6 hr6)
          have K6 := Lib.hid (K5.out.drawn (by (repeat (first | exact Ext.refl _ | assumption | refine Ext.alloc ?_ _ | refine Ext.drewN ?_ _ | refine Ext.drew ?_))) ht6 hr6)
          have hx2 : 2 * x < T.length := by omega
          have hwx : IntKind.i64.wrap ((x : Int) * 2) = ((2 * x : Nat) : Int) := by rw [IntWalk.i64_in _ (by omega)]; omega
          clear hr6 ht6 H5 K5 hx
          go_wp2_with fail
          refine (pick_c g _ 4 _ (H6.out.rd.ext (by (repeat (first | exact Ext.refl _ | assumption | refine Ext.alloc ?_ _ | refine Ext.drewN ?_ _ | refine Ext.drew ?_)))) (by omega)).mono ?_
          rintro e w7 ⟨u, rfl, hu, hr7, ht7⟩
          have H7 := Lib.hid (H6.out.drawn (by (repeat (first | exact Ext.refl _ | assumption | refine Ext.alloc ?_ _ | refine Ext.drewN ?_ _ | refine Ext.drew ?_))) ht7 hr7)
          have K7 := Lib.hid (K6.out.drawn (by (repeat (first | exact Ext.refl _ | assumption | refine Ext.alloc ?_ _ | refine Ext.drewN ?_ _ | refine Ext.drew ?_))) ht7 hr7)
          clear hr7 ht7 H6 K6 hu
          have k7 := K7.out.own
          obtain ⟨g7, c7, hv7, -, zg7, hc7, hf7⟩ := k7.row (by omega)
          have d7 := hc7 (2 * x) hx2
          have f7 := hf7 (2 * x)
          obtain rfl : g3 = g7 := by simp at hv7; exact hv7.1
          have hset := OwnI.setn k7 (by first | exact hT | rfl) (2 * x) (u : Int)
          have hgrw : w7.grownBy (w7.setCell ⟨g3, 2 * x, none⟩ (.int .i64 u)) (some g3) := OwnI.setg k7 (by first | exact hT | rfl) (2 * x) (u : Int)
          have K8 := Lib.hid (K7.out.more (Ext.refl _) k7 hset hgrw)
          have H8 : Hid (OwnI (w7.setCell ⟨g3, 2 * x, none⟩ (.int .i64 u)) w.heap.size 3 (.slice (some ⟨b, 0, none⟩) L1.length c1) L1) := World.ownsRow.kept H7.out.own hgrw (.inr (by simp [Value.ownBlock]; omega))
          clear k7 hset hgrw hc7 hf7 hv7
          go_wp2
          go_ret2
          exact ⟨_, _, L1, T.set (2 * x) (u : Int), rfl, H8.out.ext (by (repeat (first | exact Ext.refl _ | assumption | refine Ext.alloc ?_ _ | refine Ext.drewN ?_ _ | refine Ext.drew ?_))), K8.out.own.ext (by (repeat (first | exact Ext.refl _ | assumption | refine Ext.alloc ?_ _ | refine Ext.drewN ?_ _ | refine Ext.drew ?_))), hl1, by rw [List.length_set]; omega, (K8.out.rd.ext (by (repeat (first | exact Ext.refl _ | assumption | refine Ext.alloc ?_ _ | refine Ext.drewN ?_ _ | refine Ext.drew ?_)))).mono (by omega), (K8.out.ext (by (repeat (first | exact Ext.refl _ | assumption | refine Ext.alloc ?_ _ | refine Ext.drewN ?_ _ | refine Ext.drew ?_)))).tch⟩
        · have hzb : ((z : Int) == 0) = false := by simp; omega
          go_wp2
          go_ret2
          exact (H5.out.ext (by (repeat (first | exact Ext.refl _ | assumption | refine Ext.alloc ?_ _ | refine Ext.drewN ?_ _ | refine Ext.drew ?_)))).two (K5.out.ext (by (repeat (first | exact Ext.refl _ | assumption | refine Ext.alloc ?_ _ | refine Ext.drewN ?_ _ | refine Ext.drew ?_)))) hl1 (by omega) (by omega)
end Go.Proofs.YtlaamecfknkmlaaGreat
