/- Merged texts: contracts and plain lemmas (Yo, Yp). -/
import Derived.Test.YtlaamecfknkmlaaGreatGpKd
import Derived.Test.YtlaamecfknkmlaaGreatGpYk
import Derived.Test.YtlaamecfknkmlaaGreatGp12
namespace Go.Proofs.YtlaamecfknkmlaaGreat
set_option linter.unusedVariables false
open Go.RowKit Go.Kt

set_option maxRecDepth 100000 in
set_option maxHeartbeats 4000000 in
theorem l20Trace_c (g m n : Nat) (p : Int) (w : World) (h : Rd w g m) (hn : n ≤ 4) (hm : m ≤ 80000) :
    Calls Tryz.prog 98 #[.pointer (some ⟨g, 0, none⟩), .int .i64 (n : Int), .int .i64 p] w (DrewL w g (m + 20) 43) := by
  have hg := h.lt
  have HH := Lib.hid h
  clear h
  go_enter Tryz.func98, Tryz.ntmps98
  go_wp2_with fail
  refine (pick_c g m 4 _ (HH.out.ext (by (repeat (first | exact Ext.refl _ | assumption | refine Ext.alloc ?_ _ | refine Ext.drewN ?_ _ | refine Ext.drew ?_)))) (by omega)).mono ?_
  rintro e w1 ⟨x1, rfl, hx1, hr, ht⟩
  have H1 : Hid (WordSt w w1 g (m + 1) (.slice none 0 0) []) := ⟨hg, OwnI.nil _ _ _, hr, ht⟩
  have hz1 := ht.size
  clear hr ht
  go_wp2_with fail
  have O1 : Hid (OwnI (w1.alloc (.cells #[.int .i64 x1] 3)) w.heap.size 3 (.slice (some ⟨w1.heap.size, 0, none⟩) 1 1) [(x1 : Int)]) := OwnI.lit1 _ _ _ _ hz1
  have H1' := Lib.hid (H1.out.other (by (repeat (first | exact Ext.refl _ | assumption | refine Ext.alloc ?_ _ | refine Ext.drewN ?_ _ | refine Ext.drew ?_))) O1.out)
  refine (pick_c g _ _ _ (H1'.out.rd.ext (by (repeat (first | exact Ext.refl _ | assumption | refine Ext.alloc ?_ _ | refine Ext.drewN ?_ _ | refine Ext.drew ?_)))) (by omega)).mono ?_
  rintro e w2 ⟨x2, rfl, hx2, hr2, ht2⟩
  have H2 := Lib.hid (H1'.out.drawn (by (repeat (first | exact Ext.refl _ | assumption | refine Ext.alloc ?_ _ | refine Ext.drewN ?_ _ | refine Ext.drew ?_))) ht2 hr2)
  have hz2 := H2.out.tch.size
  have hxp : x2 ≤ n := by omega
  clear hr2 ht2 H1 H1' O1 hx2
  go_wp2
  go_loopw [7, 8] (fun v k wr => Hid (∃ (j : Nat) (L : List Int) (i : Nat), k = .int .i64 j ∧ i + j ≤ n ∧ L.length ≤ 1 + 2 * i ∧ WordSt w wr g (m + 2 + 2 * i) v L)) (fun _ k _ => (intOf k).toNat)
  case atStart => exact Lib.hid ⟨x2, _, 0, rfl, by omega, by simp, H2.out⟩
  case round =>
    obtain ⟨j, L, i, rfl, hij, hL, hs⟩ := hrel.out
    clear hrel H2
    obtain ⟨av, cv, rfl⟩ := hs.shape
    have HS := Lib.hid hs
    clear hs
    have hwj : IntKind.i64.wrap ((j : Int) - 1) = (j : Int) - 1 := IntWalk.i64_in _ (by omega)
    by_cases hj0 : 0 < j
    · go_wp2_with fail
      refine (pick_c g _ 3 _ (HS.out.rd.ext (by (repeat (first | exact Ext.refl _ | assumption | refine Ext.alloc ?_ _ | refine Ext.drewN ?_ _ | refine Ext.drew ?_)))) (by omega)).mono ?_
      rintro e w4 ⟨y, rfl, hy, hr4, ht4⟩
      have HS4 := Lib.hid (HS.out.drawn (by (repeat (first | exact Ext.refl _ | assumption | refine Ext.alloc ?_ _ | refine Ext.drewN ?_ _ | refine Ext.drew ?_))) ht4 hr4)
      have hz4 := HS4.out.tch.size
      clear HS hr4 ht4
      go_wp2_with fail
      refine (pick_c g _ 4 _ (HS4.out.rd.ext (by (repeat (first | exact Ext.refl _ | assumption | refine Ext.alloc ?_ _ | refine Ext.drewN ?_ _ | refine Ext.drew ?_)))) (by omega)).mono ?_
      rintro e w5 ⟨z, rfl, hz, hr5, ht5⟩
      have HS5 := Lib.hid (HS4.out.drawn (by (repeat (first | exact Ext.refl _ | assumption | refine Ext.alloc ?_ _ | refine Ext.drewN ?_ _ | refine Ext.drew ?_))) ht5 hr5)
      have hz5 := HS5.out.tch.size
      clear HS4 hr5 ht5
      have hwy : IntKind.i64.wrap (16 + (y : Int)) = 16 + (y : Int) := IntWalk.i64_in _ (by omega)
      go_wp2_with (at_builtin; refine any_append_ints (by rfl) _ _ _ rfl (w.heap.size) 3 Tryz.underlying23 infoInt _ (_) rfl (HS5.out.own.ext (by (repeat (first | exact Ext.refl _ | assumption | refine Ext.alloc ?_ _ | refine Ext.drewN ?_ _ | refine Ext.drew ?_)))) _ _ ([16 + (y : Int), (z : Int)]) rfl (by first | exact (OwnI.lit2 _ _ _ _ _ (Nat.le_refl _)).ints | exact ((OwnI.lit2 _ _ _ _ _ (Nat.le_refl _)).ints).ext (by (repeat (first | exact Ext.refl _ | assumption | refine Ext.alloc ?_ _ | refine Ext.drewN ?_ _ | refine Ext.drew ?_)))) (by first | omega | (simp; omega)) (by first | omega | (simp; done) | (simp; omega)) ?_)
      intro v6 w6 o6 g6
      have HS6 := Lib.hid (HS5.out.more (by (repeat (first | exact Ext.refl _ | assumption | refine Ext.alloc ?_ _ | refine Ext.drewN ?_ _ | refine Ext.drew ?_))) (HS5.out.own.ext (by (repeat (first | exact Ext.refl _ | assumption | refine Ext.alloc ?_ _ | refine Ext.drewN ?_ _ | refine Ext.drew ?_)))) o6 g6)
      clear HS5 o6 g6
      go_wp2
      go_roundw
      case rel => exact Lib.hid ⟨j - 1, _, i + 1, by congr 1; omega, by omega, by simp; omega, HS6.out.mono (by omega)⟩
      case measure => simp [intOf]; omega
    · have HM := Lib.hid (HS.out.mono (m' := m + 2 + 2 * n) (by omega))
      have hz0 := HM.out.tch.size
      have hL9 : L.length ≤ 9 := by omega
      clear HS hij hL
      have hq : m + 2 + 2 * n ≤ m + 10 := by omega
      generalize m + 2 + 2 * n = q at *
      go_wp2_with fail
      refine (odd_c g _ p _ (HM.out.rd.ext (by (repeat (first | exact Ext.refl _ | assumption | refine Ext.alloc ?_ _ | refine Ext.drewN ?_ _ | refine Ext.drew ?_)))) (by omega)).mono ?_
      rintro e w5 ⟨od, rfl, hr5, ht5⟩
      have H5 := Lib.hid (HM.out.drawn (by (repeat (first | exact Ext.refl _ | assumption | refine Ext.alloc ?_ _ | refine Ext.drewN ?_ _ | refine Ext.drew ?_))) ht5 hr5)
      have hz5 := H5.out.tch.size
      clear HM hr5 ht5
      cases od
      · go_wp2
        go_ret
        exact (H5.out.ext (by (repeat (first | exact Ext.refl _ | assumption | refine Ext.alloc ?_ _ | refine Ext.drewN ?_ _ | refine Ext.drew ?_)))).drewL (by omega) (by omega)
      · go_wp2_with fail
        refine (pick_c g _ 4 _ (H5.out.rd.ext (by (repeat (first | exact Ext.refl _ | assumption | refine Ext.alloc ?_ _ | refine Ext.drewN ?_ _ | refine Ext.drew ?_)))) (by omega)).mono ?_
        rintro e w6 ⟨y, rfl, hy, hr6, ht6⟩
        have H6 := Lib.hid (H5.out.drawn (by (repeat (first | exact Ext.refl _ | assumption | refine Ext.alloc ?_ _ | refine Ext.drewN ?_ _ | refine Ext.drew ?_))) ht6 hr6)
        have hz6 := H6.out.tch.size
        clear H5 hr6 ht6
        rcases (show y = 0 ∨ y = 1 ∨ y = 2 ∨ 3 ≤ y by omega) with rfl | rfl | rfl | hy3
        · go_wp2
          go_ret
          exact (H6.out.other (by (repeat (first | exact Ext.refl _ | assumption | refine Ext.alloc ?_ _ | refine Ext.drewN ?_ _ | refine Ext.drew ?_))) ((OwnI.empty _ _).mono (by first | omega | (simp; omega)))).drewL (by simp) (by omega)
        · go_wp2_with (at_builtin; refine any_append_ints (by rfl) _ _ _ rfl (w.heap.size) 3 Tryz.underlying23 infoInt _ (_) rfl (H6.out.own.ext (by (repeat (first | exact Ext.refl _ | assumption | refine Ext.alloc ?_ _ | refine Ext.drewN ?_ _ | refine Ext.drew ?_)))) _ _ ([16]) rfl (by first | exact (OwnI.lit1 _ _ _ _ (Nat.le_refl _)).ints | exact ((OwnI.lit1 _ _ _ _ (Nat.le_refl _)).ints).ext (by (repeat (first | exact Ext.refl _ | assumption | refine Ext.alloc ?_ _ | refine Ext.drewN ?_ _ | refine Ext.drew ?_)))) (by first | omega | (simp; omega)) (by first | omega | (simp; done) | (simp; omega)) ?_)
          intro v7 w7 o7 g7
          have H7 := Lib.hid (H6.out.more (by (repeat (first | exact Ext.refl _ | assumption | refine Ext.alloc ?_ _ | refine Ext.drewN ?_ _ | refine Ext.drew ?_))) (H6.out.own.ext (by (repeat (first | exact Ext.refl _ | assumption | refine Ext.alloc ?_ _ | refine Ext.drewN ?_ _ | refine Ext.drew ?_)))) o7 g7)
          clear H6 o7 g7
          go_wp2
          go_ret
          exact (H7.out.ext (by (repeat (first | exact Ext.refl _ | assumption | refine Ext.alloc ?_ _ | refine Ext.drewN ?_ _ | refine Ext.drew ?_)))).drewL (by simp; omega) (by omega)
        · go_wp2_with (at_builtin; refine any_append_ints (by rfl) _ _ _ rfl (w.heap.size) 3 Tryz.underlying23 infoInt _ (_) rfl (H6.out.own.ext (by (repeat (first | exact Ext.refl _ | assumption | refine Ext.alloc ?_ _ | refine Ext.drewN ?_ _ | refine Ext.drew ?_)))) _ _ ([19, 0]) rfl (by first | exact (OwnI.lit2 _ _ _ _ _ (Nat.le_refl _)).ints | exact ((OwnI.lit2 _ _ _ _ _ (Nat.le_refl _)).ints).ext (by (repeat (first | exact Ext.refl _ | assumption | refine Ext.alloc ?_ _ | refine Ext.drewN ?_ _ | refine Ext.drew ?_)))) (by first | omega | (simp; omega)) (by first | omega | (simp; done) | (simp; omega)) ?_)
          intro v7 w7 o7 g7
          have H7 := Lib.hid (H6.out.more (by (repeat (first | exact Ext.refl _ | assumption | refine Ext.alloc ?_ _ | refine Ext.drewN ?_ _ | refine Ext.drew ?_))) (H6.out.own.ext (by (repeat (first | exact Ext.refl _ | assumption | refine Ext.alloc ?_ _ | refine Ext.drewN ?_ _ | refine Ext.drew ?_)))) o7 g7)
          clear H6 o7 g7
          go_wp2
          go_ret
          exact (H7.out.ext (by (repeat (first | exact Ext.refl _ | assumption | refine Ext.alloc ?_ _ | refine Ext.drewN ?_ _ | refine Ext.drew ?_)))).drewL (by simp; omega) (by omega)
        · have e0 : ((y : Int) == 0) = false := by simp; omega
          have e1 : ((y : Int) == 1) = false := by simp; omega
          have e2 : ((y : Int) == 2) = false := by simp; omega
          go_wp2
          go_loopw [7] (fun v wr => Hid (∃ (M : List Int), M.length ≤ 43 ∧ WordSt w wr g (q + 1 + 1) v M)) (fun v _ => 43 - (match v with | .slice _ n _ => n | _ => 0))
          case atStart => exact Lib.hid ⟨L, by omega, H6.out⟩
          case round =>
            obtain ⟨N, hN, hsN⟩ := hrel.out
            obtain ⟨an, cn, rfl⟩ := hsN.shape
            have HN := Lib.hid hsN
            have hzN := HN.out.tch.size
            clear hrel H6 hsN
            by_cases h16 : N.length ≤ 41
            · go_wp2_with (at_builtin; refine any_append_ints (by rfl) _ _ _ rfl (w.heap.size) 3 Tryz.underlying23 infoInt _ (_) rfl (HN.out.own.ext (by (repeat (first | exact Ext.refl _ | assumption | refine Ext.alloc ?_ _ | refine Ext.drewN ?_ _ | refine Ext.drew ?_)))) _ _ ([16, 0]) rfl (by first | exact (OwnI.lit2 _ _ _ _ _ (Nat.le_refl _)).ints | exact ((OwnI.lit2 _ _ _ _ _ (Nat.le_refl _)).ints).ext (by (repeat (first | exact Ext.refl _ | assumption | refine Ext.alloc ?_ _ | refine Ext.drewN ?_ _ | refine Ext.drew ?_)))) (by first | omega | (simp; omega)) (by first | omega | (simp; done) | (simp; omega)) ?_)
              intro v7 w7 o7 g7
              have H7 := Lib.hid (HN.out.more (by (repeat (first | exact Ext.refl _ | assumption | refine Ext.alloc ?_ _ | refine Ext.drewN ?_ _ | refine Ext.drew ?_))) (HN.out.own.ext (by (repeat (first | exact Ext.refl _ | assumption | refine Ext.alloc ?_ _ | refine Ext.drewN ?_ _ | refine Ext.drew ?_)))) o7 g7)
              obtain ⟨L7, hL7, hl7⟩ := namedI (N ++ [16, 0])
              rw [← hL7.out] at o7 H7
              rw [List.length_append] at hl7
              have hl7' : L7.length = N.length + 2 := by rw [hl7]; rfl
              obtain ⟨a7, c7, rfl⟩ := H7.out.shape
              have HL7 := Lib.hid hl7'
              clear HN o7 g7 hl7 hl7'
              go_wp2
              go_roundw
              case rel => exact Lib.hid ⟨L7, by have := HL7.out; omega, H7.out.ext (by (repeat (first | exact Ext.refl _ | assumption | refine Ext.alloc ?_ _ | refine Ext.drewN ?_ _ | refine Ext.drew ?_)))⟩
              case measure => have := HL7.out; simp; omega
            · go_wp2
              go_ret
              exact (HN.out.ext (by (repeat (first | exact Ext.refl _ | assumption | refine Ext.alloc ?_ _ | refine Ext.drewN ?_ _ | refine Ext.drew ?_)))).drewL (by omega) (by omega)
end Go.Proofs.YtlaamecfknkmlaaGreat
namespace Go.Kt
set_option linter.unusedVariables false
open Go.RowKit
theorem IntsAt.drawn {w w' : World} {b off g : Nat} {l : List Int} (h : IntsAt w (some ⟨b, off, none⟩) l) (t : Touched w w' g (g + 1)) (hb : g < b) : IntsAt w' (some ⟨b, off, none⟩) l := by
  obtain ⟨b', off', h1, h2⟩ := h
  by_cases hl : 0 < l.length
  · obtain ⟨e, hz⟩ := h1 hl
    obtain ⟨rfl, rfl⟩ : b = b' ∧ off = off' := by simpa using e
    refine ⟨b, off, fun _ => ⟨rfl, Nat.lt_of_lt_of_le hz t.size⟩, fun i hi => ?_⟩
    exact (World.cell?_of_block (a := ⟨b, off + i, none⟩) (t.block b hz (.inr (by omega)))).trans (h2 i hi)
  · exact ⟨0, 0, fun h => absurd h hl, fun i hi => absurd hi (by omega)⟩
/-- How many picks, how long. -/
def kof (n d : Nat) : Nat := 4 * n * 2 ^ d
def lof (n d : Nat) : Nat := 3 * n * 2 ^ d
theorem kof_two (a b d : Nat) : kof a d + kof b d + 2 ≤ kof (a + b + 1) d := by
  have e : kof (a + b + 1) d = kof a d + kof b d + 4 * 2 ^ d := by unfold kof; rw [Nat.mul_add, Nat.mul_add, Nat.add_mul, Nat.add_mul]
  have := Nat.one_le_two_pow (n := d)
  omega
theorem lof_two (a b d : Nat) : lof a d + lof b d ≤ lof (a + b + 1) d := by
  have e : lof (a + b + 1) d = lof a d + lof b d + 3 * 2 ^ d := by unfold lof; rw [Nat.mul_add, Nat.mul_add, Nat.add_mul, Nat.add_mul]
  omega
theorem kof_star (a d : Nat) : 2 * (kof a d + 1) + 2 ≤ kof (a + 1) (d + 1) := by
  have e : kof (a + 1) (d + 1) = 2 * kof a d + 8 * 2 ^ d := by
    unfold kof; rw [Nat.pow_succ, Nat.mul_add, Nat.add_mul]
    have : 4 * a * (2 ^ d * 2) = 2 * (4 * a * 2 ^ d) := by rw [← Nat.mul_assoc, Nat.mul_comm]
    omega
  have := Nat.one_le_two_pow (n := d)
  omega
theorem lof_star (a d : Nat) : 1 + 2 * lof a d ≤ lof (a + 1) (d + 1) := by
  have e : lof (a + 1) (d + 1) = 2 * lof a d + 6 * 2 ^ d := by
    unfold lof; rw [Nat.pow_succ, Nat.mul_add, Nat.add_mul]
    have : 3 * a * (2 ^ d * 2) = 2 * (3 * a * 2 ^ d) := by rw [← Nat.mul_assoc, Nat.mul_comm]
    omega
  have := Nat.one_le_two_pow (n := d)
  omega
theorem kof_one (d n : Nat) (h : 1 ≤ n) : 4 ≤ kof n d := by
  unfold kof
  have := Nat.one_le_two_pow (n := d)
  have : 4 * 1 * 1 ≤ 4 * n * 2 ^ d := Nat.mul_le_mul (by omega) this
  omega
theorem lof_one (d n : Nat) (h : 1 ≤ n) : 3 ≤ lof n d := by
  unfold lof
  have := Nat.one_le_two_pow (n := d)
  have : 3 * 1 * 1 ≤ 3 * n * 2 ^ d := Nat.mul_le_mul (by omega) this
  omega
theorem kof_le {n d : Nat} (h : n ≤ 40) (hd : d ≤ 2) : kof n d ≤ 640 := by
  unfold kof
  have h1 : 2 ^ d ≤ 2 ^ 2 := Nat.pow_le_pow_right (by decide) hd
  have : 4 * n * 2 ^ d ≤ 4 * 40 * 2 ^ 2 := Nat.mul_le_mul (by omega) h1
  omega
theorem lof_le {n d : Nat} (h : n ≤ 40) (hd : d ≤ 2) : lof n d ≤ 480 := by
  unfold lof
  have h1 : 2 ^ d ≤ 2 ^ 2 := Nat.pow_le_pow_right (by decide) hd
  have : 3 * n * 2 ^ d ≤ 3 * 40 * 2 ^ 2 := Nat.mul_le_mul (by omega) h1
  omega
end Go.Kt
namespace Go.Proofs.YtlaamecfknkmlaaGreat
set_option linter.unusedVariables false
open Go.RowKit Go.Kt

/-- A list drawn, of odd length. -/
def DrewO (w0 : World) (g m N : Nat) (e : Ending) (w' : World) : Prop := ∃ v L, e = .returned v ∧ WordSt w0 w' g m v L ∧ L.length ≤ N ∧ L.length % 2 = 1
set_option maxRecDepth 100000 in
set_option maxHeartbeats 1000000 in
theorem l20Glue_c (g m : Nat) (w0 w : World) (a b : Option Addr) (ca cb n k : Nat) (xs ys : List Int) (x : Int) (hn : xs.length = n) (hk : ys.length = k)
    (h : WordSt w0 w g m (.slice a (n + 1) ca) (xs ++ [x])) (hy : OwnI w w0.heap.size 3 (.slice b k cb) ys) (hnb : n ≤ 100000) (hkb : k ≤ 100000) (hm : m ≤ 90000) (ho1 : n % 2 = 0) (ho2 : k % 2 = 1) :
    Calls Tryz.prog 161 #[.pointer (some ⟨g, 0, none⟩), .slice a (n + 1) ca, .slice b k cb] w (DrewO w0 g (m + 1) (n + k + 1)) := by
  have H := Lib.hid h
  have HY := Lib.hid hy
  have hg := h.hg
  have ho := h.own
  have hfit : n + 1 ≤ ca := OwnI.fit (by exact ho)
  obtain ⟨ga, ca', hva, -⟩ := ho.row (by simp)
  have hz := h.tch.size
  obtain rfl : a = some ⟨ga, 0, none⟩ := by simp at hva; exact hva.1
  have HI : Hid (IntsAt w (some ⟨ga, 0, none⟩) xs) := IntsAt.left ho.ints
  clear h hy ho hva
  have hw0 : IntKind.i64.wrap (n : Int) = (n : Int) := IntWalk.i64_in _ (by omega)
  have hw1 : IntKind.i64.wrap ((n : Int) + 1 - 1) = (n : Int) := by rw [IntWalk.i64_in _ (by omega)]; omega
  have hnc : (n : Int) ≤ (ca : Int) := by omega
  have hkb1 : k = 1 ∨ (k ≠ 1 ∧ (((k : Nat) : Int) == 1) = false) := by
    by_cases h : k = 1
    · exact .inl h
    · exact .inr ⟨h, by simp; omega⟩
  subst hn
  subst hk
  go_enter Tryz.func161, Tryz.ntmps161
  go_wp2_with (at_builtin; refine any_append_ints (by rfl) _ _ _ rfl (w.heap.size) 3 Tryz.underlying23 infoInt _ ([]) rfl (by first | exact OwnI.empty _ _ | exact (OwnI.empty _ _).ext (by (repeat (first | exact Ext.refl _ | assumption | refine Ext.alloc ?_ _ | refine Ext.drewN ?_ _ | refine Ext.drew ?_)))) _ _ (xs) rfl (HI.out.ext (by (repeat (first | exact Ext.refl _ | assumption | refine Ext.alloc ?_ _ | refine Ext.drewN ?_ _ | refine Ext.drew ?_)))) (by first | omega | (simp; omega)) (by first | omega | (simp; done) | (simp; omega)) ?_)
  intro v1 w1 o1 g1
  have X1 := Lib.hid (OwnI.grown (OwnI.empty w 3) (by (repeat (first | exact Ext.refl _ | assumption | refine Ext.alloc ?_ _ | refine Ext.drewN ?_ _ | refine Ext.drew ?_))) g1)
  have H1 := Lib.hid (H.out.other X1.out (o1.mono hz))
  have HA := Lib.hid (H.out.ext X1.out)
  have HY1 := Lib.hid (HY.out.ext X1.out)
  obtain ⟨a1, c1, rfl⟩ := H1.out.shape
  have hz1 := X1.out.size
  clear o1 g1 H HY HI
  rcases hkb1 with hk1 | ⟨hk1, hk1b⟩
  · obtain ⟨z, rfl⟩ : ∃ z, ys = [z] := by
      match ys, hk1 with
      | [z], _ => exact ⟨z, rfl⟩
    clear hk1
    have hl1 : ([z] : List Int).length = 1 := rfl
    rw [hl1] at *
    go_wp2_with fail
    refine (pick_c g m 3 _ (H1.out.rd.ext (by (repeat (first | exact Ext.refl _ | assumption | refine Ext.alloc ?_ _ | refine Ext.drewN ?_ _ | refine Ext.drew ?_)))) (by omega)).mono ?_
    rintro e w2 ⟨y, rfl, hy, hr2, ht2⟩
    have H2 := Lib.hid (H1.out.drawn (by (repeat (first | exact Ext.refl _ | assumption | refine Ext.alloc ?_ _ | refine Ext.drewN ?_ _ | refine Ext.drew ?_))) ht2 hr2)
    have HA2 := Lib.hid (HA.out.drawn (by (repeat (first | exact Ext.refl _ | assumption | refine Ext.alloc ?_ _ | refine Ext.drewN ?_ _ | refine Ext.drew ?_))) ht2 hr2)
    have HY2 := Lib.hid (OwnI.drawn (HY1.out.ext (by (repeat (first | exact Ext.refl _ | assumption | refine Ext.alloc ?_ _ | refine Ext.drewN ?_ _ | refine Ext.drew ?_)))) ht2 hg)
    have hz2 := H2.out.tch.size
    clear H1 HA HY1 hr2 ht2
    by_cases h0 : y = 0
    · subst h0
      go_wp2
      go_ret
      exact ⟨_, xs ++ [x], rfl, HA2.out.ext (by (repeat (first | exact Ext.refl _ | assumption | refine Ext.alloc ?_ _ | refine Ext.drewN ?_ _ | refine Ext.drew ?_))), by simp, by simp <;> omega⟩
    · have hyb : ((y : Int) == 0) = false := by simp; omega
      go_wp2_with (at_builtin; refine any_append_ints (by rfl) _ _ _ rfl (w0.heap.size) 3 Tryz.underlying23 infoInt _ (xs) rfl (H2.out.own.ext (by (repeat (first | exact Ext.refl _ | assumption | refine Ext.alloc ?_ _ | refine Ext.drewN ?_ _ | refine Ext.drew ?_)))) _ _ ([z]) rfl (HY2.out.ints.ext (by (repeat (first | exact Ext.refl _ | assumption | refine Ext.alloc ?_ _ | refine Ext.drewN ?_ _ | refine Ext.drew ?_)))) (by first | omega | (simp; omega)) (by first | omega | (simp; done) | (simp; omega)) ?_)
      intro v3 w3 o3 g3
      have H3 := Lib.hid (H2.out.more (by (repeat (first | exact Ext.refl _ | assumption | refine Ext.alloc ?_ _ | refine Ext.drewN ?_ _ | refine Ext.drew ?_))) (H2.out.own.ext (by (repeat (first | exact Ext.refl _ | assumption | refine Ext.alloc ?_ _ | refine Ext.drewN ?_ _ | refine Ext.drew ?_)))) o3 g3)
      clear o3 g3
      go_wp2
      go_ret
      exact ⟨_, xs ++ [z], rfl, H3.out.ext (by (repeat (first | exact Ext.refl _ | assumption | refine Ext.alloc ?_ _ | refine Ext.drewN ?_ _ | refine Ext.drew ?_))), by simp <;> omega, by simp <;> omega⟩
  · go_wp2_with (at_builtin; refine any_append_ints (by rfl) _ _ _ rfl (w0.heap.size) 3 Tryz.underlying23 infoInt _ (xs) rfl (H1.out.own.ext (by (repeat (first | exact Ext.refl _ | assumption | refine Ext.alloc ?_ _ | refine Ext.drewN ?_ _ | refine Ext.drew ?_)))) _ _ (ys) rfl (HY1.out.ints.ext (by (repeat (first | exact Ext.refl _ | assumption | refine Ext.alloc ?_ _ | refine Ext.drewN ?_ _ | refine Ext.drew ?_)))) (by first | omega | (simp; omega)) (by first | omega | (simp; done) | (simp; omega)) ?_)
    intro v3 w3 o3 g3
    have H3 := Lib.hid (H1.out.more (by (repeat (first | exact Ext.refl _ | assumption | refine Ext.alloc ?_ _ | refine Ext.drewN ?_ _ | refine Ext.drew ?_))) (H1.out.own.ext (by (repeat (first | exact Ext.refl _ | assumption | refine Ext.alloc ?_ _ | refine Ext.drewN ?_ _ | refine Ext.drew ?_)))) o3 g3)
    clear o3 g3
    go_wp2
    go_ret
    exact ⟨_, xs ++ ys, rfl, (H3.out.ext (by (repeat (first | exact Ext.refl _ | assumption | refine Ext.alloc ?_ _ | refine Ext.drewN ?_ _ | refine Ext.drew ?_)))).mono (by omega), by simp <;> omega, by simp <;> omega⟩
end Go.Proofs.YtlaamecfknkmlaaGreat
