/- Merged texts: contracts and plain lemmas (Yp). -/
import Derived.Test.YtlaamecfknkmlaaGreatGrYo
import Derived.Test.YtlaamecfknkmlaaGreatGrYk
import Derived.Test.YtlaamecfknkmlaaGreatGrRg
/- Contracts: traces drawn off an expression. -/
namespace Go.Kt
set_option linter.unusedVariables false
open Go.RowKit
theorem IntsAt.drawn {w w' : World} {b off g : Nat} {l : List Int} (h : IntsAt w (some ⟨b, off, none⟩) l) (t : Touched w w' g (g + 1)) (hb : g < b) : IntsAt w' (some ⟨b, off, none⟩) l := by
  obtain ⟨b', off', h1, h2⟩ := h
  by_cases hl : 0 < l.length
  · obtain ⟨e, hz⟩ := h1 hl
    obtain ⟨rfl, rfl⟩ : b = b' ∧ off = off' := by simpa using e
    refine ⟨b, off, fun _ => ⟨rfl, Nat.lt_of_lt_of_le hz t.size⟩, fun i hi => ?_⟩
    exact (World.cell?_of_block (a := ⟨b, off + i, none⟩) (t.block b hz (.inr (by omega)))).trans (h2 i hi)
  · exact ⟨0, 0, fun h => absurd h hl, fun i hi => absurd hi (by omega)⟩
/-- How many picks, how long. -/
def kof (n d : Nat) : Nat := 4 * n * 2 ^ d
def lof (n d : Nat) : Nat := 3 * n * 2 ^ d
theorem kof_two (a b d : Nat) : kof a d + kof b d + 2 ≤ kof (a + b + 1) d := by
  have e : kof (a + b + 1) d = kof a d + kof b d + 4 * 2 ^ d := by unfold kof; rw [Nat.mul_add, Nat.mul_add, Nat.add_mul, Nat.add_mul]
  have := Nat.one_le_two_pow (n := d)
  omega
theorem lof_two (a b d : Nat) : lof a d + lof b d ≤ lof (a + b + 1) d := by
  have e : lof (a + b + 1) d = lof a d + lof b d + 3 * 2 ^ d := by unfold lof; rw [Nat.mul_add, Nat.mul_add, Nat.add_mul, Nat.add_mul]
  omega
theorem kof_star (a d : Nat) : 2 * (kof a d + 1) + 2 ≤ kof (a + 1) (d + 1) := by
  have e : kof (a + 1) (d + 1) = 2 * kof a d + 8 * 2 ^ d := by
    unfold kof; rw [Nat.pow_succ, Nat.mul_add, Nat.add_mul]
    have : 4 * a * (2 ^ d * 2) = 2 * (4 * a * 2 ^ d) := by rw [← Nat.mul_assoc, Nat.mul_comm]
    omega
  have := Nat.one_le_two_pow (n := d)
  omega
theorem lof_star (a d : Nat) : 1 + 2 * lof a d ≤ lof (a + 1) (d + 1) := by
  have e : lof (a + 1) (d + 1) = 2 * lof a d + 6 * 2 ^ d := by
    unfold lof; rw [Nat.pow_succ, Nat.mul_add, Nat.add_mul]
    have : 3 * a * (2 ^ d * 2) = 2 * (3 * a * 2 ^ d) := by rw [← Nat.mul_assoc, Nat.mul_comm]
    omega
  have := Nat.one_le_two_pow (n := d)
  omega
theorem kof_one (d n : Nat) (h : 1 ≤ n) : 4 ≤ kof n d := by
  unfold kof
  have := Nat.one_le_two_pow (n := d)
  have : 4 * 1 * 1 ≤ 4 * n * 2 ^ d := Nat.mul_le_mul (by omega) this
  omega
theorem lof_one (d n : Nat) (h : 1 ≤ n) : 3 ≤ lof n d := by
  unfold lof
  have := Nat.one_le_two_pow (n := d)
  have : 3 * 1 * 1 ≤ 3 * n * 2 ^ d := Nat.mul_le_mul (by omega) this
  omega
theorem kof_le {n d : Nat} (h : n ≤ 40) (hd : d ≤ 2) : kof n d ≤ 640 := by
  unfold kof
  have h1 : 2 ^ d ≤ 2 ^ 2 := Nat.pow_le_pow_right (by decide) hd
  have : 4 * n * 2 ^ d ≤ 4 * 40 * 2 ^ 2 := Nat.mul_le_mul (by omega) h1
  omega
theorem lof_le {n d : Nat} (h : n ≤ 40) (hd : d ≤ 2) : lof n d ≤ 480 := by
  unfold lof
  have h1 : 2 ^ d ≤ 2 ^ 2 := Nat.pow_le_pow_right (by decide) hd
  have : 3 * n * 2 ^ d ≤ 3 * 40 * 2 ^ 2 := Nat.mul_le_mul (by omega) h1
  omega
end Go.Kt
namespace Go.Proofs.YtlaamecfknkmlaaGreat
set_option linter.unusedVariables false
open Go.RowKit Go.Kt

/-- A list drawn, of odd length. -/
def DrewO (w0 : World) (g m N : Nat) (e : Ending) (w' : World) : Prop := ∃ v L, e = .returned v ∧ WordSt w0 w' g m v L ∧ L.length ≤ N ∧ L.length % 2 = 1
set_option maxRecDepth 100000 in
set_option maxHeartbeats 1000000 in
theorem l20Glue_c (g m : Nat) (w0 w : World) (a b : Option Addr) (ca cb n k : Nat) (xs ys : List Int) (x : Int) (hn : xs.length = n) (hk : ys.length = k)
    (h : WordSt w0 w g m (.slice a (n + 1) ca) (xs ++ [x])) (hy : OwnI w w0.heap.size 3 (.slice b k cb) ys) (hnb : n ≤ 100000) (hkb : k ≤ 100000) (hm : m ≤ 90000) (ho1 : n % 2 = 0) (ho2 : k % 2 = 1) :
    Calls Tryz.prog 161 #[.pointer (some ⟨g, 0, none⟩), .slice a (n + 1) ca, .slice b k cb] w (DrewO w0 g (m + 1) (n + k + 1)) := by
  have H := Lib.hid h
  have HY := Lib.hid hy
  have hg := h.hg
  have ho := h.own
  have hfit : n + 1 ≤ ca := OwnI.fit (by exact ho)
  obtain ⟨ga, ca', hva, -⟩ := ho.row (by simp)
  have hz := h.tch.size
  obtain rfl : a = some ⟨ga, 0, none⟩ := by simp at hva; exact hva.1
  have HI : Hid (IntsAt w (some ⟨ga, 0, none⟩) xs) := IntsAt.left ho.ints
  clear h hy ho hva
  have hw0 : IntKind.i64.wrap (n : Int) = (n : Int) := IntWalk.i64_in _ (by omega)
  have hw1 : IntKind.i64.wrap ((n : Int) + 1 - 1) = (n : Int) := by rw [IntWalk.i64_in _ (by omega)]; omega
  have hnc : (n : Int) ≤ (ca : Int) := by omega
  have hkb1 : k = 1 ∨ (k ≠ 1 ∧ (((k : Nat) : Int) == 1) = false) := by
    by_cases h : k = 1
    · exact .inl h
    · exact .inr ⟨h, by simp; omega⟩
  subst hn
  subst hk
  go_enter Tryz.func161, Tryz.ntmps161
  go_wp2_with (at_builtin; refine any_append_ints (by rfl) _ _ _ rfl (w.heap.size) 3 Tryz.underlying23 infoInt _ ([]) rfl (by first | exact OwnI.empty _ _ | exact (OwnI.empty _ _).ext (by (repeat (first | exact Ext.refl _ | assumption | refine Ext.alloc ?_ _ | refine Ext.drewN ?_ _ | refine Ext.drew ?_)))) _ _ (xs) rfl (HI.out.ext (by (repeat (first | exact Ext.refl _ | assumption | refine Ext.alloc ?_ _ | refine Ext.drewN ?_ _ | refine Ext.drew ?_)))) (by first | omega | (simp; omega)) (by first | omega | (simp; done) | (simp; omega)) ?_)
  intro v1 w1 o1 g1
  have X1 := Lib.hid (OwnI.grown (OwnI.empty w 3) (by (repeat (first | exact Ext.refl _ | assumption | refine Ext.alloc ?_ _ | refine Ext.drewN ?_ _ | refine Ext.drew ?_))) g1)
  have H1 := Lib.hid (H.out.other X1.out (o1.mono hz))
  have HA := Lib.hid (H.out.ext X1.out)
  have HY1 := Lib.hid (HY.out.ext X1.out)
  obtain ⟨a1, c1, rfl⟩ := H1.out.shape
  have hz1 := X1.out.size
  clear o1 g1 H HY HI
  rcases hkb1 with hk1 | ⟨hk1, hk1b⟩
  · obtain ⟨z, rfl⟩ : ∃ z, ys = [z] := by
      match ys, hk1 with
      | [z], _ => exact ⟨z, rfl⟩
    clear hk1
    have hl1 : ([z] : List Int).length = 1 := rfl
    rw [hl1] at *
    go_wp2_with fail
    refine (pick_c g m 3 _ (H1.out.rd.ext (by (repeat (first | exact Ext.refl _ | assumption | refine Ext.alloc ?_ _ | refine Ext.drewN ?_ _ | refine Ext.drew ?_)))) (by omega)).mono ?_
    rintro e w2 ⟨y, rfl, hy, hr2, ht2⟩
    have H2 := Lib.hid (H1.out.drawn (by (repeat (first | exact Ext.refl _ | assumption | refine Ext.alloc ?_ _ | refine Ext.drewN ?_ _ | refine Ext.drew ?_))) ht2 hr2)
    have HA2 := Lib.hid (HA.out.drawn (by (repeat (first | exact Ext.refl _ | assumption | refine Ext.alloc ?_ _ | refine Ext.drewN ?_ _ | refine Ext.drew ?_))) ht2 hr2)
    have HY2 := Lib.hid (OwnI.drawn (HY1.out.ext (by (repeat (first | exact Ext.refl _ | assumption | refine Ext.alloc ?_ _ | refine Ext.drewN ?_ _ | refine Ext.drew ?_)))) ht2 hg)
    have hz2 := H2.out.tch.size
    clear H1 HA HY1 hr2 ht2
    by_cases h0 : y = 0
    · subst h0
      go_wp2
      go_ret
      exact ⟨_, xs ++ [x], rfl, HA2.out.ext (by (repeat (first | exact Ext.refl _ | assumption | refine Ext.alloc ?_ _ | refine Ext.drewN ?_ _ | refine Ext.drew ?_))), by simp, by simp <;> omega⟩
    · have hyb : ((y : Int) == 0) = false := by simp; omega
      go_wp2_with (at_builtin; refine any_append_ints (by rfl) _ _ _ rfl (w0.heap.size) 3 Tryz.underlying23 infoInt _ (xs) rfl (H2.out.own.ext (by (repeat (first | exact Ext.refl _ | assumption | refine Ext.alloc ?_ _ | refine Ext.drewN ?_ _ | refine Ext.drew ?_)))) _ _ ([z]) rfl (HY2.out.ints.ext (by (repeat (first | exact Ext.refl _ | assumption | refine Ext.alloc ?_ _ | refine Ext.drewN ?_ _ | refine Ext.drew ?_)))) (by first | omega | (simp; omega)) (by first | omega | (simp; done) | (simp; omega)) ?_)
      intro v3 w3 o3 g3
      have H3 := Lib.hid (H2.out.more (by (repeat (first | exact Ext.refl _ | assumption | refine Ext.alloc ?_ _ | refine Ext.drewN ?_ _ | refine Ext.drew ?_))) (H2.out.own.ext (by (repeat (first | exact Ext.refl _ | assumption | refine Ext.alloc ?_ _ | refine Ext.drewN ?_ _ | refine Ext.drew ?_)))) o3 g3)
      clear o3 g3
      go_wp2
      go_ret
      exact ⟨_, xs ++ [z], rfl, H3.out.ext (by (repeat (first | exact Ext.refl _ | assumption | refine Ext.alloc ?_ _ | refine Ext.drewN ?_ _ | refine Ext.drew ?_))), by simp <;> omega, by simp <;> omega⟩
  · go_wp2_with (at_builtin; refine any_append_ints (by rfl) _ _ _ rfl (w0.heap.size) 3 Tryz.underlying23 infoInt _ (xs) rfl (H1.out.own.ext (by (repeat (first | exact Ext.refl _ | assumption | refine Ext.alloc ?_ _ | refine Ext.drewN ?_ _ | refine Ext.drew ?_)))) _ _ (ys) rfl (HY1.out.ints.ext (by (repeat (first | exact Ext.refl _ | assumption | refine Ext.alloc ?_ _ | refine Ext.drewN ?_ _ | refine Ext.drew ?_)))) (by first | omega | (simp; omega)) (by first | omega | (simp; done) | (simp; omega)) ?_)
    intro v3 w3 o3 g3
    have H3 := Lib.hid (H1.out.more (by (repeat (first | exact Ext.refl _ | assumption | refine Ext.alloc ?_ _ | refine Ext.drewN ?_ _ | refine Ext.drew ?_))) (H1.out.own.ext (by (repeat (first | exact Ext.refl _ | assumption | refine Ext.alloc ?_ _ | refine Ext.drewN ?_ _ | refine Ext.drew ?_)))) o3 g3)
    clear o3 g3
    go_wp2
    go_ret
    exact ⟨_, xs ++ ys, rfl, (H3.out.ext (by (repeat (first | exact Ext.refl _ | assumption | refine Ext.alloc ?_ _ | refine Ext.drewN ?_ _ | refine Ext.drew ?_)))).mono (by omega), by simp <;> omega, by simp <;> omega⟩
end Go.Proofs.YtlaamecfknkmlaaGreat
