/- Merged texts: contracts and plain lemmas (Au). -/
import Derived.Test.YtlaamecfknkmlaaGreatGr2
import Derived.Deep.RegionHeld3
/- Contracts: sets of states of automata: what is behind them, where they may end. -/
namespace Go.Proofs.YtlaamecfknkmlaaGreat
set_option linter.unusedVariables false
open Go.RowKit Go.Kt

abbrev autV (a1 : Option Addr) (n1 c1 : Nat) (a2 : Option Addr) (n2 c2 : Nat) : Value := .agg #[.slice a1 n1 c1, .slice a2 n2 c2]
theorem two_pow_le {s m : Nat} (h : s ≤ m) : (2 : Int) ^ s ≤ 2 ^ m := pow_le_big s m h
theorem behindSet_c (a1 a2 : Option Addr) (c1 c2 : Nat) (E : List Int) (N : List (List Int)) (S m : Nat) (w : World) (hN : RowsAt w a2 N) (h : Auto E N) (hS : S < 4294967296) (hm : m < 12) :
    Calls Tryz.prog 117 #[autV a1 E.length c1 a2 N.length c2, .int .i64 S, .int .i64 m] w fun e w' => e = .returned (.int .i64 (stp N S m : Nat)) ∧ Ext w w' := by
  obtain ⟨b2, o2, p2, q2⟩ := hN
  have P2 := Lib.hid p2
  have Q2 := Lib.hid q2
  have H := Lib.hid h
  have hten := h.ten
  have HL := Lib.hid h.len
  have HF : Hid (stp N S m = imgTo (colA N m) S E.length) := by unfold Hid stp img; rw [colA_length, h.len]
  rw [h.len]
  clear p2 q2 h
  generalize hn : E.length = n at *
  have HE := Lib.hid hn
  clear hn
  go_enter Tryz.func117, Tryz.ntmps117
  go_wp2
  go_loop [7, 12] (fun o i => Hid (∃ k : Nat, k ≤ n ∧ i = .int .i64 k ∧ o = .int .i64 (imgTo (colA N m) S k : Nat))) (fun _ i => n - (intOf i).toNat)
  case atStart => exact Lib.hid ⟨0, Nat.zero_le _, rfl, rfl⟩
  case round =>
    obtain ⟨k, hk, rfl, rfl⟩ := hrel.out
    clear hrel
    have hlo : imgTo (colA N m) S k < 4294967296 := by
      refine imgTo_lt (m := 32) (fun i hi => ?_) S k (by rw [colA_length, HL.out]; exact hk)
      rw [colA_length] at hi
      rw [colA_nat hi]
      have e := HL.out
      have := H.out.nat (s := i) (m := m) (by rw [HE.out]; omega) hm
      have h10 := two_10 H.out
      omega
    have hsu := Lib.hid (imgTo_succ (colA N m) S k)
    by_cases hlt : k < n
    · have hkN : k < N.length := by rw [HL.out]; exact hlt
      obtain ⟨rfl, hb2⟩ := P2.out (by omega)
      obtain ⟨ai, ci, r1, b3, o3, p3, q3⟩ := Q2.out k hkN
      have hrow := H.out.row k (by rw [HE.out]; exact hlt)
      obtain ⟨rfl, hb3⟩ := p3 (by omega)
      have r2 := q3 m (by omega)
      rw [hrow] at r1
      have hx := H.out.next k (by rw [HE.out]; exact hlt) m hm
      have hxn := H.out.nat (s := k) (m := m) (by rw [HE.out]; exact hlt) hm
      have h10 := two_10 H.out
      have hcol := colA_nat (m := m) hkN
      have hval : nth (rowI N k) m = ((natAt (rowI N k) m : Nat) : Int) := by unfold natAt; omega
      rw [hval] at r2
      rw [hcol] at hsu
      have hxs : natAt (rowI N k) m < 4294967296 := by omega
      have e := i64_orN _ _ hlo hxs
      have eb := i64_bit_eq S k (by omega)
      clear p3 q3 hrow hx hxn h10 hcol hval P2 Q2 hkN
      generalize natAt (rowI N k) m = x at *
      cases hbit : S.testBit k
      all_goals
        rw [hbit] at eb
        go_wp2
        go_round
        case rel => exact Lib.hid ⟨k + 1, by omega, by go_num, by rw [hsu.out, hbit]; rfl⟩
        case measure => simp [intOf]; omega
    · obtain rfl : k = n := by omega
      go_wp2
      go_ret
      exact ⟨by rw [HF.out]; rfl, by (repeat (first | exact Ext.refl _ | assumption | refine Ext.alloc ?_ _ | refine Ext.drewN ?_ _ | refine Ext.drew ?_))⟩
theorem endsOf_c (a1 a2 : Option Addr) (c1 n2 c2 : Nat) (E : List Int) (N : List (List Int)) (S : Nat) (w : World) (hE : IntsAt w a1 E) (h : Auto E N) (hS : S < 4294967296) :
    Calls Tryz.prog 116 #[autV a1 E.length c1 a2 n2 c2, .int .i64 S] w fun e w' => e = .returned (.int .i64 (img E S : Nat)) ∧ Ext w w' := by
  obtain ⟨b2, o2, p2, q2⟩ := hE
  have P2 := Lib.hid p2
  have Q2 := Lib.hid q2
  have H := Lib.hid h
  have hten := h.ten
  have HF : Hid (img E S = imgTo E S E.length) := rfl
  clear p2 q2 h
  generalize hn : E.length = n at *
  have HE := Lib.hid hn
  clear hn
  go_enter Tryz.func116, Tryz.ntmps116
  go_wp2
  go_loop [5, 11] (fun o i => Hid (∃ k : Nat, k ≤ n ∧ i = .int .i64 k ∧ o = .int .i64 (imgTo E S k : Nat))) (fun _ i => n - (intOf i).toNat)
  case atStart => exact Lib.hid ⟨0, Nat.zero_le _, rfl, rfl⟩
  case round =>
    obtain ⟨k, hk, rfl, rfl⟩ := hrel.out
    clear hrel
    have hlo : imgTo E S k < 4294967296 := by
      refine imgTo_lt (m := 32) (fun i hi => ?_) S k (by rw [HE.out]; exact hk)
      have := H.out.ends i hi
      unfold natAt; omega
    have hsu := Lib.hid (imgTo_succ E S k)
    by_cases hlt : k < n
    · obtain ⟨rfl, hb2⟩ := P2.out (by omega)
      have r2 := Q2.out k hlt
      have hx := H.out.ends k (by rw [HE.out]; exact hlt)
      have hval : nth E k = ((natAt E k : Nat) : Int) := by unfold natAt; omega
      rw [hval] at r2
      have hxs : natAt E k < 4294967296 := by unfold natAt; omega
      have e := i64_orN _ _ hlo hxs
      have eb := i64_bit_eq S k (by omega)
      clear hx hval P2 Q2
      generalize natAt E k = x at *
      cases hbit : S.testBit k
      all_goals
        rw [hbit] at eb
        go_wp2
        go_round
        case rel => exact Lib.hid ⟨k + 1, by omega, by go_num, by rw [hsu.out, hbit]; rfl⟩
        case measure => simp [intOf]; omega
    · obtain rfl : k = n := by omega
      go_wp2
      go_ret
      exact ⟨by rw [HF.out]; rfl, by (repeat (first | exact Ext.refl _ | assumption | refine Ext.alloc ?_ _ | refine Ext.drewN ?_ _ | refine Ext.drew ?_))⟩
theorem hasSet_c (a1 a2 : Option Addr) (n c1 n2 c2 : Nat) (x : Int) (w : World) (hn : n ≤ 10) :
    Calls Tryz.prog 56 #[autV a1 n c1 a2 n2 c2, .int .i64 x] w fun e w' => e = .returned (.bool (setB n x)) ∧ Ext w w' := by
  have hp := two_pow_le hn
  have hq := pow_pos' n
  by_cases h1 : 0 ≤ x
  all_goals
    go_enter Tryz.func56, Tryz.ntmps56
    go_wp2
    go_ret
    exact ⟨by simp [setB, h1]; try omega, by (repeat (first | exact Ext.refl _ | assumption | refine Ext.alloc ?_ _ | refine Ext.drewN ?_ _ | refine Ext.drew ?_))⟩
theorem move_c (A K : Nat) (w : World) (hA : A ≤ 3) (hK : K < 3) :
    Calls Tryz.prog 136 #[.int .i64 A, .int .i64 (16 + (K : Int))] w fun e w' => e = .returned (.int .i64 ((3 * A + K : Nat) : Int)) ∧ w = w' := by
  go_enter Tryz.func136, Tryz.ntmps136
  go_wp2
  go_ret
  exact ⟨by have : 3 * (A : Int) + (16 + (K : Int)) - 16 = ((3 * A + K : Nat) : Int) := by omega
            rw [this]; rfl, rfl⟩
abbrev togV (a1 : Option Addr) (n1 c1 : Nat) (a2 : Option Addr) (n2 c2 : Nat) (b1 : Option Addr) (m1 d1 : Nat) (b2 : Option Addr) (m2 d2 : Nat) : Value := .agg #[.slice a1 n1 c1, .slice a2 n2 c2, .slice b1 m1 d1, .slice b2 m2 d2]
abbrev pairV (p : Nat × Nat) : Value := .agg #[.int .i64 (p.1 : Nat), .int .i64 (p.2 : Nat)]
/-- What a cell holds. -/
def cellV (w : World) (b o : Nat) : Value := (w.cell? ⟨b, o, none⟩).getD undef
theorem cellV_eq {w : World} {b o : Nat} {v : Value} (h : w.cell? ⟨b, o, none⟩ = some v) : w.cell? ⟨b, o, none⟩ = some (cellV w b o) := by unfold cellV; rw [h]; rfl
abbrev HeldT (z0 z1 z2 : Nat) (v0 v1 v2 v3 x y : Value) (w' : World) : Prop :=
    (w'.cell? ⟨z0, 0, none⟩ = some v0 ∧ w'.cell? ⟨z0, 1, none⟩ = some v1 ∧ w'.cell? ⟨z0, 2, none⟩ = some v2 ∧ w'.cell? ⟨z0, 3, none⟩ = some v3) ∧
    (w'.cell? ⟨z1, 0, none⟩ = some x ∧ w'.cell? ⟨z1, 1, none⟩ = some y) ∧
    (w'.cell? ⟨z2, 0, none⟩ = some (cellV w' z2 0) ∧ w'.cell? ⟨z2, 1, none⟩ = some (cellV w' z2 1) ∧ w'.frozen? ⟨z2, 0, none⟩ = false ∧ w'.frozen? ⟨z2, 1, none⟩ = false ∧ z2 < w'.heap.size)
theorem keepT {w w' : World} {v0 v1 v2 v3 x y : Value} (h : Ext (((w.alloc (.cells #[v0, v1, v2, v3] 65)).alloc (.cells #[x, y] 71)).alloc (.cells #[.int .i64 0, .int .i64 0] 71)) w') :
    HeldT w.heap.size (w.heap.size + 1) (w.heap.size + 1 + 1) v0 v1 v2 v3 x y w' := by
  have hz := h.size
  simp at hz
  refine ⟨⟨?_, ?_, ?_, ?_⟩, ⟨?_, ?_⟩, cellV_eq (v := .int .i64 0) ?_, cellV_eq (v := .int .i64 0) ?_, (h.cells.2 _ _ (by simp)).trans (by simp [go_sem]), (h.cells.2 _ _ (by simp)).trans (by simp [go_sem]), by omega⟩ <;> exact h.cell' (by simp [go_sem]) (by simp; try omega)
theorem keepS {z0 z1 z2 : Nat} {v0 v1 v2 v3 x y u1 u2 : Value} {w' : World} (h : HeldT z0 z1 z2 v0 v1 v2 v3 x y w') (h0 : z0 ≠ z2) (h1 : z1 ≠ z2) : HeldT z0 z1 z2 v0 v1 v2 v3 x y ((w'.setCell ⟨z2, 0, none⟩ u1).setCell ⟨z2, 1, none⟩ u2) := by
  obtain ⟨⟨a1, a2, a3, a4⟩, ⟨b1, b2⟩, c1, c2, d1, d2, d3⟩ := h
  refine ⟨⟨?_, ?_, ?_, ?_⟩, ⟨?_, ?_⟩, cellV_eq (v := u1) ?_, cellV_eq (v := u2) ?_, ?_, ?_, ?_⟩ <;> simp [go_sem, *]
set_option maxRecDepth 100000 in
theorem next_c (a1 a2 : Option Addr) (c1 c2 : Nat) (E : List Int) (N : List (List Int)) (b1 b2 : Option Addr) (d1 d2 : Nat) (F : List Int) (M : List (List Int)) (S T m : Nat) (w : World) (hN : RowsAt w a2 N) (h : Auto E N) (hM : RowsAt w b2 M) (k : Auto F M) (hS : S < 4294967296) (hT : T < 4294967296) (hm : m < 12) :
    Calls Tryz.prog 58 #[togV a1 E.length c1 a2 N.length c2 b1 F.length d1 b2 M.length d2, .agg #[.int .i64 S, .int .i64 T], .int .i64 m] w fun e w' => e = .returned (.agg #[.int .i64 (stp N S m : Nat), .int .i64 (stp M T m : Nat)]) ∧ Ext w w' := by
  have C1 : Hid (∀ w', Ext w w' → Calls Tryz.prog 117 #[autV a1 E.length c1 a2 N.length c2, .int .i64 S, .int .i64 m] w' fun e w'' => e = .returned (.int .i64 (stp N S m : Nat)) ∧ Ext w' w'') := fun w' x => behindSet_c a1 a2 c1 c2 E N S m w' (hN.ext x) h hS hm
  have C2 : Hid (∀ w', Ext w w' → Calls Tryz.prog 117 #[autV b1 F.length d1 b2 M.length d2, .int .i64 T, .int .i64 m] w' fun e w'' => e = .returned (.int .i64 (stp M T m : Nat)) ∧ Ext w' w'') := fun w' x => behindSet_c b1 b2 d1 d2 F M T m w' (hM.ext x) k hT hm
  clear hN h hM k
  generalize stp N S m = x at *
  generalize stp M T m = y at *
  generalize E.length = nE at *
  generalize F.length = nF at *
  generalize N.length = nN at *
  generalize M.length = nM at *
  go_enter Tryz.func58, Tryz.ntmps58
  go_wp2
  have K0 := keepT (w := w) (v0 := .slice a1 nE c1) (v1 := .slice a2 nN c2) (v2 := .slice b1 nF d1) (v3 := .slice b2 nM d2) (x := .int .i64 S) (y := .int .i64 T) (Ext.drew (Ext.refl _))
  have KK : Hid (∀ w', Ext (((w.alloc (.cells #[.slice a1 nE c1, .slice a2 nN c2, .slice b1 nF d1, .slice b2 nM d2] 65)).alloc (.cells #[.int .i64 S, .int .i64 T] 71)).alloc (.cells #[.int .i64 0, .int .i64 0] 71)) w' → HeldT w.heap.size (w.heap.size + 1) (w.heap.size + 1 + 1) (.slice a1 nE c1) (.slice a2 nN c2) (.slice b1 nF d1) (.slice b2 nM d2) (.int .i64 S) (.int .i64 T) w') := fun w' h => keepT h
  have h02 : w.heap.size ≠ w.heap.size + 1 + 1 := by omega
  have h12 : w.heap.size + 1 ≠ w.heap.size + 1 + 1 := by omega
  go_region_held3 (HeldT w.heap.size (w.heap.size + 1) (w.heap.size + 1 + 1) (.slice a1 nE c1) (.slice a2 nN c2) (.slice b1 nF d1) (.slice b2 nM d2) (.int .i64 S) (.int .i64 T))
    (first
      | exact K0
      | exact KK.out _ (Ext.trans (by (repeat (first | exact Ext.refl _ | assumption | refine Ext.alloc ?_ _ | refine Ext.drewN ?_ _ | refine Ext.drew ?_))) (Ext.trans yk yl))
      | exact KK.out _ (Ext.trans (by (repeat (first | exact Ext.refl _ | assumption | refine Ext.alloc ?_ _ | refine Ext.drewN ?_ _ | refine Ext.drew ?_))) yk)
      | exact keepS (by assumption) h02 h12)
    ((first
      | (go_at_call 117; have _t := yk; (with_reducible refine (C2.out _ (Ext.trans (show Ext w _ by (repeat (first | exact Ext.refl _ | assumption | refine Ext.alloc ?_ _ | refine Ext.drewN ?_ _ | refine Ext.drew ?_))) yk)).mono ?_); rintro e wl ⟨rfl, yl⟩)
      | (go_at_call 117; have _t := yk; (with_reducible refine (C1.out _ (Ext.trans (show Ext w _ by (repeat (first | exact Ext.refl _ | assumption | refine Ext.alloc ?_ _ | refine Ext.drewN ?_ _ | refine Ext.drew ?_))) yk)).mono ?_); rintro e wl ⟨rfl, yl⟩)
      | (go_at_call 117; (with_reducible refine (C1.out _ (by (repeat (first | exact Ext.refl _ | assumption | refine Ext.alloc ?_ _ | refine Ext.drewN ?_ _ | refine Ext.drew ?_)))).mono ?_); rintro e wk ⟨rfl, yk⟩)
      | (go_at_call 117; (with_reducible refine (C2.out _ (by (repeat (first | exact Ext.refl _ | assumption | refine Ext.alloc ?_ _ | refine Ext.drewN ?_ _ | refine Ext.drew ?_)))).mono ?_); rintro e wk ⟨rfl, yk⟩)))
  all_goals
    have X := Ext.trans (show Ext w _ by (repeat (first | exact Ext.refl _ | assumption | refine Ext.alloc ?_ _ | refine Ext.drewN ?_ _ | refine Ext.drew ?_))) (Ext.trans yk yl)
    obtain ⟨-, -, hc1, hc2, hf1, hf2, -⟩ := KK.out _ (Ext.trans (by (repeat (first | exact Ext.refl _ | assumption | refine Ext.alloc ?_ _ | refine Ext.drewN ?_ _ | refine Ext.drew ?_))) (Ext.trans yk yl))
    go_wp2
    refine bodyPost_ret (v := .agg #[.int .i64 x, .int .i64 y]) (by simp [results, Tryz.results58, go_sem, hc1, hc2]) rfl ⟨rfl, ?_⟩
    exact (X.setCell (by simp; try omega) _).setCell (by simp; try omega) _
abbrev HeldU (z0 z1 : Nat) (v0 v1 v2 v3 x y : Value) (w' : World) : Prop :=
    (w'.cell? ⟨z0, 0, none⟩ = some v0 ∧ w'.cell? ⟨z0, 1, none⟩ = some v1 ∧ w'.cell? ⟨z0, 2, none⟩ = some v2 ∧ w'.cell? ⟨z0, 3, none⟩ = some v3) ∧
    (w'.cell? ⟨z1, 0, none⟩ = some x ∧ w'.cell? ⟨z1, 1, none⟩ = some y)
theorem keepU {w w' : World} {v0 v1 v2 v3 x y : Value} (h : Ext ((w.alloc (.cells #[v0, v1, v2, v3] 65)).alloc (.cells #[x, y] 71)) w') :
    HeldU w.heap.size (w.heap.size + 1) v0 v1 v2 v3 x y w' := by
  have hz := h.size
  simp at hz
  refine ⟨⟨?_, ?_, ?_, ?_⟩, ⟨?_, ?_⟩⟩ <;> exact h.cell' (by simp [go_sem]) (by simp; try omega)
set_option maxRecDepth 100000 in
theorem apart_c (a1 a2 : Option Addr) (c1 n2 c2 : Nat) (E : List Int) (N : List (List Int)) (b1 b2 : Option Addr) (d1 m2 d2 : Nat) (F : List Int) (M : List (List Int)) (S T : Nat) (w : World) (hE : IntsAt w a1 E) (h : Auto E N) (hF : IntsAt w b1 F) (k : Auto F M) (hS : S < 4294967296) (hT : T < 4294967296) :
    Calls Tryz.prog 57 #[togV a1 E.length c1 a2 n2 c2 b1 F.length d1 b2 m2 d2, .agg #[.int .i64 S, .int .i64 T]] w fun e w' => e = .returned (.int .i64 ((img E S ^^^ img F T : Nat) : Int)) ∧ Ext w w' := by
  have C1 : Hid (∀ w', Ext w w' → Calls Tryz.prog 116 #[autV a1 E.length c1 a2 n2 c2, .int .i64 S] w' fun e w'' => e = .returned (.int .i64 (img E S : Nat)) ∧ Ext w' w'') := fun w' x => endsOf_c a1 a2 c1 n2 c2 E N S w' (hE.ext x) h hS
  have C2 : Hid (∀ w', Ext w w' → Calls Tryz.prog 116 #[autV b1 F.length d1 b2 m2 d2, .int .i64 T] w' fun e w'' => e = .returned (.int .i64 (img F T : Nat)) ∧ Ext w' w'') := fun w' x => endsOf_c b1 b2 d1 m2 d2 F M T w' (hF.ext x) k hT
  have hx := ends_of_lt h S
  have hy := ends_of_lt k T
  have e := i64_xor (img E S) (img F T) (by omega) (by omega)
  clear hE h hF k
  generalize img E S = x at *
  generalize img F T = y at *
  generalize E.length = nE at *
  generalize F.length = nF at *
  go_enter Tryz.func57, Tryz.ntmps57
  go_wp2
  have K0 := keepU (w := w) (v0 := .slice a1 nE c1) (v1 := .slice a2 n2 c2) (v2 := .slice b1 nF d1) (v3 := .slice b2 m2 d2) (x := .int .i64 S) (y := .int .i64 T) (Ext.drew (Ext.refl _))
  have KK : Hid (∀ w', Ext ((w.alloc (.cells #[.slice a1 nE c1, .slice a2 n2 c2, .slice b1 nF d1, .slice b2 m2 d2] 65)).alloc (.cells #[.int .i64 S, .int .i64 T] 71)) w' → HeldU w.heap.size (w.heap.size + 1) (.slice a1 nE c1) (.slice a2 n2 c2) (.slice b1 nF d1) (.slice b2 m2 d2) (.int .i64 S) (.int .i64 T) w') := fun w' h => keepU h
  go_region_held3 (HeldU w.heap.size (w.heap.size + 1) (.slice a1 nE c1) (.slice a2 n2 c2) (.slice b1 nF d1) (.slice b2 m2 d2) (.int .i64 S) (.int .i64 T))
    (first
      | exact K0
      | exact KK.out _ (Ext.trans (by (repeat (first | exact Ext.refl _ | assumption | refine Ext.alloc ?_ _ | refine Ext.drewN ?_ _ | refine Ext.drew ?_))) (Ext.trans yk yl))
      | exact KK.out _ (Ext.trans (by (repeat (first | exact Ext.refl _ | assumption | refine Ext.alloc ?_ _ | refine Ext.drewN ?_ _ | refine Ext.drew ?_))) yk))
    ((first
      | (go_at_call 116; have _t := yk; (with_reducible refine (C2.out _ (Ext.trans (show Ext w _ by (repeat (first | exact Ext.refl _ | assumption | refine Ext.alloc ?_ _ | refine Ext.drewN ?_ _ | refine Ext.drew ?_))) yk)).mono ?_); rintro e wl ⟨rfl, yl⟩)
      | (go_at_call 116; have _t := yk; (with_reducible refine (C1.out _ (Ext.trans (show Ext w _ by (repeat (first | exact Ext.refl _ | assumption | refine Ext.alloc ?_ _ | refine Ext.drewN ?_ _ | refine Ext.drew ?_))) yk)).mono ?_); rintro e wl ⟨rfl, yl⟩)
      | (go_at_call 116; (with_reducible refine (C1.out _ (by (repeat (first | exact Ext.refl _ | assumption | refine Ext.alloc ?_ _ | refine Ext.drewN ?_ _ | refine Ext.drew ?_)))).mono ?_); rintro e wk ⟨rfl, yk⟩)
      | (go_at_call 116; (with_reducible refine (C2.out _ (by (repeat (first | exact Ext.refl _ | assumption | refine Ext.alloc ?_ _ | refine Ext.drewN ?_ _ | refine Ext.drew ?_)))).mono ?_); rintro e wk ⟨rfl, yk⟩)))
  all_goals
    have X := Ext.trans (show Ext w _ by (repeat (first | exact Ext.refl _ | assumption | refine Ext.alloc ?_ _ | refine Ext.drewN ?_ _ | refine Ext.drew ?_))) (Ext.trans yk yl)
    go_wp2
    go_ret
    exact ⟨rfl, X⟩
end Go.Proofs.YtlaamecfknkmlaaGreat
