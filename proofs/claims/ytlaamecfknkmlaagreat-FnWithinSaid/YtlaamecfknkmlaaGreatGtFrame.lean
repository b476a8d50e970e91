/- Merged texts: contracts and plain lemmas (Frame). -/
import Derived.Test.YtlaamecfknkmlaaGreatRows
import Derived.Test.YtlaamecfknkmlaaGreatGt1
import Derived.ProofKit
import Derived.OpenShut
import Derived.ShutString
import Derived.ChangeOld
import Derived.Below
namespace Go.Kt
set_option linter.unusedVariables false
open Go.RowKit

theorem intsAt_none (w : World) : IntsAt w none [] := ⟨0, 0, fun h => absurd h (by simp), fun i h => absurd h (by simp)⟩
theorem intsAt_take {w : World} {x : Addr} {len : Nat} {zs : List Int} (hl : len ≤ zs.length) (hc : ∀ i, i < zs.length → w.cell? (x.add i) = some (.int .i64 (zs.getD i 0))) : IntsAt w (some x) (zs.take len) := by
  by_cases h0 : len = 0
  · subst h0; exact ⟨0, 0, fun h => absurd h (by simp), fun i h => absurd h (by simp)⟩
  · obtain ⟨b, off, spot⟩ := x
    have hc0 := hc 0 (by omega)
    have hspot : spot = none := by simpa [Addr.add] using World.cell?_spot hc0
    subst hspot
    have hadd : ∀ i, (⟨b, off, none⟩ : Addr).add i = ⟨b, off + i, none⟩ := fun i => by unfold Addr.add; split <;> simp_all
    refine ⟨b, off, fun _ => ⟨rfl, ?_⟩, fun i hi => ?_⟩
    · rw [hadd] at hc0
      exact lt_of_cell hc0
    · have hi' : i < len := by simp at hi; omega
      have := hc i (by omega)
      rw [hadd] at this
      rw [this]
      congr 2
      unfold nth
      rw [List.getD_eq_getElem?_getD, List.getD_eq_getElem?_getD, List.getElem?_take, if_pos hi']
theorem intsAt_of_cells {w : World} {x : Addr} {len cap : Nat} {zs : List Int} (hz : zs.length = cap) (hl : len ≤ cap) (hm : cap ≤ maxLen) (hc : ∀ i, i < zs.length → w.cell? (x.add i) = some (.int .i64 (zs.getD i 0)))
    (_hw : ∀ n ∈ zs, (Lit.int .i64 n).wf = true) : ∃ l, len = l.length ∧ IntsAt w (some x) l ∧ len ≤ 9223372036854775807 :=
  ⟨zs.take len, by simp; omega, intsAt_take (by omega) hc, by unfold maxLen at hm; omega⟩
theorem bytesAt_none (w : World) : BytesAt w none [] := ⟨0, 0, fun h => absurd h (by simp), fun i h => absurd h (by simp)⟩
theorem bytesAt_of_cells {w : World} {x : Addr} {len cap : Nat} {zs : List Int} (hz : zs.length = cap) (hl : len ≤ cap) (hm : cap ≤ maxLen) (hc : ∀ i, i < zs.length → w.cell? (x.add i) = some (.int .u8 (zs.getD i 0)))
    (hw : ∀ n ∈ zs, (Lit.int .u8 n).wf = true) : ∃ l, len = l.length ∧ BytesAt w (some x) l ∧ len ≤ 9223372036854775807 := by
  refine ⟨zs.take len, by simp; omega, ?_, by unfold maxLen at hm; omega⟩
  by_cases h0 : len = 0
  · subst h0; exact ⟨0, 0, fun h => absurd h (by simp), fun i h => absurd h (by simp)⟩
  · obtain ⟨b, off, spot⟩ := x
    have hc0 := hc 0 (by omega)
    have hspot : spot = none := by simpa [Addr.add] using World.cell?_spot hc0
    subst hspot
    have hadd : ∀ i, (⟨b, off, none⟩ : Addr).add i = ⟨b, off + i, none⟩ := fun i => by unfold Addr.add; split <;> simp_all
    refine ⟨b, off, fun _ => ⟨rfl, ?_⟩, fun i hi => ?_⟩
    · rw [hadd] at hc0
      exact lt_of_cell hc0
    · have hi' : i < len := by simp at hi; omega
      have := hc i (by omega)
      rw [hadd] at this
      have e : nth (zs.take len) i = zs.getD i 0 := by
        unfold nth
        rw [List.getD_eq_getElem?_getD, List.getD_eq_getElem?_getD, List.getElem?_take, if_pos hi']
      refine ⟨by rw [this, e], ?_⟩
      have hmem : zs.getD i 0 ∈ zs := by
        rw [List.getD_eq_getElem?_getD, List.getElem?_eq_getElem (show i < zs.length by omega)]; exact List.getElem_mem _
      have := hw _ hmem
      rw [e]
      have hmin : IntKind.u8.min = 0 := rfl
      have hmax : IntKind.u8.max = 255 := rfl
      simp only [Lit.wf, Bool.and_eq_true, decide_eq_true_eq] at this
      omega
end Go.Kt
namespace Go.Proofs.YtlaamecfknkmlaaGreat
theorem andT {a b : Bool} (h : a = true) (k : b = true) : (a && b) = true := by rw [h, k]; rfl
theorem Tryz.ownK : ownKnob Tryz.prog.godebug = none := by kernel_rfl
theorem Tryz.laidOutB : laidOutB Tryz.prog = true := by kernel_rfl
theorem Tryz.mapsRowed : mapsRowed Tryz.prog = true := by kernel_rfl
theorem Tryz.noStops : (Tryz.prog.stops == []) = true := by kernel_rfl
theorem Tryz.noStopKnobs : (Tryz.prog.stopKnobs == []) = true := by kernel_rfl
theorem Tryz.stopsHeard : Tryz.prog.stopsHeard = true := by kernel_rfl
/-- The translation's head, sign by sign: the kernel is slow at taking a long string apart. -/
def headSigns : List Nat := [104, 97, 114, 110, 101, 115, 115, 32, 101, 51, 97, 99, 49, 48, 102, 53, 48, 48, 100, 98, 101, 51, 51, 99, 102, 99, 53, 102, 48, 100, 99, 53, 53, 97, 57, 50, 56, 55, 50, 56
   , 52, 51, 57, 52, 100, 51, 98, 55, 99, 50, 56, 56, 55, 98, 55, 50, 101, 101, 98, 55, 101, 52, 54, 49, 97, 52, 53, 57, 57, 102, 98, 51, 32, 99, 117, 116, 32, 97, 116, 32
   , 108, 111, 111, 112, 46, 101, 120, 97, 109, 112, 108, 101, 47, 107, 108, 101, 101, 110, 101, 116, 101, 115, 116, 115, 47, 108, 97, 119, 115, 46, 70, 110, 80, 97, 105, 114, 115, 79, 107, 32
   , 108, 111, 111, 112, 46, 101, 120, 97, 109, 112, 108, 101, 47, 107, 108, 101, 101, 110, 101, 116, 101, 115, 116, 115, 47, 108, 97, 119, 115, 46, 70, 110, 83, 116, 114, 111, 110, 103, 83, 116
   , 97, 116, 101, 115, 32, 108, 111, 111, 112, 46, 101, 120, 97, 109, 112, 108, 101, 47, 107, 108, 101, 101, 110, 101, 116, 101, 115, 116, 115, 47, 108, 97, 119, 115, 46, 70, 110, 87, 105, 116
   , 104, 105, 110, 32, 108, 111, 111, 112, 46, 101, 120, 97, 109, 112, 108, 101, 47, 107, 108, 101, 101, 110, 101, 116, 101, 115, 116, 115, 47, 108, 97, 119, 115, 46, 70, 110, 84, 114, 97, 99
   , 101, 82, 111, 119, 115, 32, 108, 111, 111, 112, 46, 101, 120, 97, 109, 112, 108, 101, 47, 107, 108, 101, 101, 110, 101, 116, 101, 115, 116, 115, 47, 108, 97, 119, 115, 46, 70, 110, 68, 105
   , 102, 102, 101, 114, 32, 108, 111, 111, 112, 46, 101, 120, 97, 109, 112, 108, 101, 47, 107, 108, 101, 101, 110, 101, 116, 101, 115, 116, 115, 47, 108, 97, 119, 115, 46, 70, 110, 69, 113, 117
   , 97, 108, 32, 108, 111, 111, 112, 46, 101, 120, 97, 109, 112, 108, 101, 47, 107, 108, 101, 101, 110, 101, 116, 101, 115, 116, 115, 47, 108, 97, 119, 115, 46, 70, 110, 82, 111, 119, 115, 79
   , 102]
set_option maxRecDepth 100000 in
theorem Tryz.headIs : Tryz.prog.initOrder = String.ofList (headSigns.map Char.ofNat) := by kernel_rfl
theorem Tryz.headList : Tryz.prog.initOrder.toList = headSigns.map Char.ofNat := by rw [Tryz.headIs, String.toList_ofList]
theorem Tryz.mayEnter : Tryz.prog.mayEnter = true := by
  rw [Program.mayEnter.eq_1, Tryz.headList]
  kernel_rfl
theorem Tryz.made : (Tryz.prog.make == some .cut) = true := by
  rw [Program.make.eq_1, Tryz.headList]
  kernel_rfl
theorem Tryz.lifted : (false == Tryz.prog.liftsFinal) = true := by
  rw [Program.liftsFinal.eq_1, Program.headLifts.eq_1, Tryz.headList]
  kernel_rfl
end Go.Proofs.YtlaamecfknkmlaaGreat
