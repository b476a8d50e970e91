/- Merged texts: contracts and plain lemmas (Tz). -/
import Derived.Test.YtlaamecfknkmlaaDoorMh39
import Derived.Test.YtlaamecfknkmlaaDoorMh43
/- Contracts: how many zero bits a set of one state ends with (the library's table is read). -/
namespace Go.Kt
set_option linter.unusedVariables false
/-- Just one state: a power of two. -/
theorem oneN_pow {x : Nat} (h : oneN x = true) : x = pow2 (Nat.log2 x) := by
  unfold oneN at h
  rw [Bool.and_eq_true, decide_eq_true_eq, decide_eq_true_eq] at h
  obtain ⟨h0, h1⟩ := h
  have hle : 2 ^ Nat.log2 x ≤ x := Nat.log2_self_le h0
  rcases Nat.lt_or_ge (2 ^ Nat.log2 x) x with hlt | hge
  · exfalso
    have hlt2 : x < 2 ^ (Nat.log2 x + 1) := Nat.lt_log2_self
    have hb : ∀ y, 2 ^ Nat.log2 x ≤ y → y < 2 ^ (Nat.log2 x + 1) → y.testBit (Nat.log2 x) = true := fun y hy hy2 => by
      rw [Nat.testBit_eq_decide_div_mod_eq, decide_eq_true_eq]
      have : y / 2 ^ Nat.log2 x = 1 := by
        apply Nat.div_eq_of_lt_le
        · simpa using hy
        · rw [Nat.pow_succ] at hy2; omega
      rw [this]
    have e1 := hb x hle hlt2
    have e2 := hb (x - 1) (by omega) (by omega)
    have e3 := testBit_andN x (x - 1) (Nat.log2 x)
    rw [h1, e1, e2] at e3
    simp at e3
  · exact Nat.le_antisymm hge hle
end Go.Kt
namespace Go.Proofs.YtlaamecfknkmlaaDoor
set_option linter.unusedVariables false
open Go.RowKit Go.Kt

theorem certF_one {st : Nat} {p q : Int} {ll : List (List Int)} (h : certF st p q ll = true) : OneRows st ll := by
  unfold certF at h
  rw [Bool.and_eq_true] at h
  obtain ⟨hv, ha⟩ := h
  obtain ⟨s, P, Q, e1, rfl, rfl, b1, b2, b3, b4, b5, b6, b7, b8⟩ := mvB_bounds hv
  obtain rfl : st = s := by omega
  intro k i hk hi
  rw [List.all_eq_true] at ha
  have h1 := ha k (List.mem_range.2 (by omega))
  unfold allOne at h1
  rw [List.all_eq_true] at h1
  have hl := rvB_len (b8 k hk)
  have h2 := oneN_pow (h1 i (List.mem_range.2 (by omega)))
  have h3 := (rvB_sets (b8 k hk)).2.1 i (by omega)
  rw [Int.toNat_natCast] at h3
  refine ⟨Nat.log2 (natAt (rowI ll k) i), ?_, h2⟩
  rw [h2] at h3
  exact (Nat.pow_lt_pow_iff_right (by decide)).1 h3
/-- What the library's table holds where it is read. -/
structure TabW (w : World) : Prop where
  t0 : w.cell? ⟨1, 0, none⟩ = some (.int .u8 0)
  t1 : w.cell? ⟨1, 1, none⟩ = some (.int .u8 1)
  t3 : w.cell? ⟨1, 3, none⟩ = some (.int .u8 2)
  t7 : w.cell? ⟨1, 7, none⟩ = some (.int .u8 3)
  t15 : w.cell? ⟨1, 15, none⟩ = some (.int .u8 4)
theorem TabW.ext {w w' : World} (h : TabW w) (e : Ext w w') : TabW w' :=
  ⟨e.cell' h.t0 (lt_of_cell h.t0), e.cell' h.t1 (lt_of_cell h.t1), e.cell' h.t3 (lt_of_cell h.t3), e.cell' h.t7 (lt_of_cell h.t7), e.cell' h.t15 (lt_of_cell h.t15)⟩
theorem tz64_c (j : Nat) (w : World) (hj : j < 5) (h : TabW w) : Calls Tryd.prog 66 #[.int .u64 (pow2 j : Nat)] w fun e w' => e = .returned (.int .i64 j) ∧ w = w' := by
  obtain ⟨t0, t1, t3, t7, t15⟩ := h
  rcases (show j = 0 ∨ j = 1 ∨ j = 2 ∨ j = 3 ∨ j = 4 by omega) with rfl | rfl | rfl | rfl | rfl
  · show Calls _ _ #[.int .u64 1] _ _
    have hi : IntKind.u64.wrap (bits BinOp.and IntKind.u64 1 (IntKind.u64.wrap (-1)) * 285870213051353865) / 288230376151711744 = 0 := by kernel_rfl
    go_enter Tryd.func66, Tryd.ntmps66
    go_wp2
    go_ret
    exact ⟨rfl, rfl⟩
  · show Calls _ _ #[.int .u64 2] _ _
    have hi : IntKind.u64.wrap (bits BinOp.and IntKind.u64 2 (IntKind.u64.wrap (-2)) * 285870213051353865) / 288230376151711744 = 1 := by kernel_rfl
    go_enter Tryd.func66, Tryd.ntmps66
    go_wp2
    go_ret
    exact ⟨rfl, rfl⟩
  · show Calls _ _ #[.int .u64 4] _ _
    have hi : IntKind.u64.wrap (bits BinOp.and IntKind.u64 4 (IntKind.u64.wrap (-4)) * 285870213051353865) / 288230376151711744 = 3 := by kernel_rfl
    go_enter Tryd.func66, Tryd.ntmps66
    go_wp2
    go_ret
    exact ⟨rfl, rfl⟩
  · show Calls _ _ #[.int .u64 8] _ _
    have hi : IntKind.u64.wrap (bits BinOp.and IntKind.u64 8 (IntKind.u64.wrap (-8)) * 285870213051353865) / 288230376151711744 = 7 := by kernel_rfl
    go_enter Tryd.func66, Tryd.ntmps66
    go_wp2
    go_ret
    exact ⟨rfl, rfl⟩
  · show Calls _ _ #[.int .u64 16] _ _
    have hi : IntKind.u64.wrap (bits BinOp.and IntKind.u64 16 (IntKind.u64.wrap (-16)) * 285870213051353865) / 288230376151711744 = 15 := by kernel_rfl
    go_enter Tryd.func66, Tryd.ntmps66
    go_wp2
    go_ret
    exact ⟨rfl, rfl⟩
theorem tz_c (j : Nat) (w : World) (hj : j < 5) (h : TabW w) : Calls Tryd.prog 39 #[.int .u64 (pow2 j : Nat)] w fun e w' => e = .returned (.int .i64 j) ∧ w = w' := by
  have HT := Lib.hid h
  have hp : pow2 j ≤ 16 := pow2_le j 4 (by omega)
  clear h
  go_enter Tryd.func39, Tryd.ntmps39
  go_wp2_with fail
  refine (tz64_c j _ hj HT.out).mono ?_
  rintro e w' ⟨rfl, rfl⟩
  go_wp2
  go_ret
  exact ⟨rfl, rfl⟩
end Go.Proofs.YtlaamecfknkmlaaDoor
