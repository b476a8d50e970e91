/- Merged texts: contracts and plain lemmas (Pk). -/
import Derived.Test.YtlaamecfknkmlaaGreatGt6
import Derived.Test.YtlaamecfknkmlaaGreatGtSp
import Derived.BigQuiet
namespace Go.Kt
set_option linter.unusedVariables false
/-- A slice of n numbers is one still, if one cell turns to another number. -/
theorem HasN.set {w : World} {a : Option Addr} {n c g : Nat} (h : HasN w a n c) (hg : ∃ v, w.cell? ⟨g, 1, none⟩ = some v) (q : Int) : HasN (w.setCell ⟨g, 1, none⟩ (.int .i64 q)) a n c := by
  obtain ⟨h1, L, rfl, ⟨b, off, k1, k2⟩, k3⟩ := h
  obtain ⟨p, hp⟩ := hg
  have hn : ∀ i, i < L.length → nth ((List.range L.length).map fun i => if b = g ∧ off + i = 1 then q else nth L i) i = if b = g ∧ off + i = 1 then q else nth L i := fun i hi => by
    rw [nth_getElem _ _ (by simpa using hi)]; simp
  refine ⟨h1, (List.range L.length).map fun i => if b = g ∧ off + i = 1 then q else nth L i, by simp, ⟨b, off, fun h0 => ?_, fun i hi => ?_⟩, fun b' o' h0 ha => ?_⟩
  · obtain ⟨e1, e2⟩ := k1 (by simpa using h0)
    exact ⟨e1, by simpa using e2⟩
  · have hi' : i < L.length := by simpa using hi
    rw [hn i hi']
    have hc := k2 i hi'
    by_cases hb : b = g
    · subst hb
      by_cases ho : off + i = 1
      · rw [if_pos ⟨rfl, ho⟩, ho]
        simp [go_sem, hp]
      · rw [if_neg (fun e => ho e.2)]
        first | (simp [go_sem]; done) | (simp [go_sem]; exact hc)
    · rw [if_neg (fun e => hb e.1)]
      exact (World.cell?_of_block (a := ⟨b, off + i, none⟩) (heap_setCell_other w ⟨g, 1, none⟩ b (.int .i64 q) (fun e => hb e))).trans hc
  · obtain ⟨⟨cs, fz, hc⟩, hx⟩ := k3 b' o' (by simpa using h0) ha
    refine ⟨?_, hx⟩
    by_cases hb : b' = g
    · subst hb; exact Go.Proofs.YtlaamecfknkmlaaGreat.typed_put ⟨cs, fz, hc⟩ 1 _
    · exact ⟨cs, fz, (heap_setCell_other w ⟨g, 1, none⟩ b' (.int .i64 q) (fun e => hb e)).trans hc⟩
theorem HasN.kept {w w' : World} {a : Option Addr} {n c ER : Nat} {row : Option Nat} (h : HasN w a n c) (hg : w.grownBy w' row) (hr : ∀ k, row = some k → ∃ cs fz, w.heap[k]? = some (.cells cs ER fz)) (hE : 3 ≠ ER) : HasN w' a n c := by
  obtain ⟨h1, L, h2, h3⟩ := h
  exact ⟨h1, L, h2, h3.kept hg hr hE⟩
/-- A list of lists of numbers, wherever it lies. -/
def RowsE (w : World) (a : Option Addr) (ll : List (List Int)) : Prop := ∃ b off, (0 < ll.length → a = some ⟨b, off, none⟩ ∧ b < w.heap.size) ∧
    ∀ i, i < ll.length → ∃ ai ci, w.cell? ⟨b, off + i, none⟩ = some (.slice ai (rowI ll i).length ci) ∧ (rowI ll i).length ≤ ci ∧ IntsE w (ek 3) ai (rowI ll i)
theorem RowsE.rows {w : World} {a : Option Addr} {ll : List (List Int)} (h : RowsE w a ll) : RowsAt w a ll := by
  obtain ⟨b, off, h1, h2⟩ := h
  exact ⟨b, off, h1, fun i hi => let ⟨ai, ci, k1, _, k3⟩ := h2 i hi; ⟨ai, ci, k1, k3.1⟩⟩
theorem RowsE.ext {w w' : World} {a : Option Addr} {ll : List (List Int)} (h : RowsE w a ll) (e : Ext w w') : RowsE w' a ll := by
  obtain ⟨b, off, h1, h2⟩ := h
  refine ⟨b, off, fun h0 => ⟨(h1 h0).1, Nat.lt_of_lt_of_le (h1 h0).2 e.size⟩, fun i hi => ?_⟩
  obtain ⟨ai, ci, k1, k2, k3⟩ := h2 i hi
  exact ⟨ai, ci, e.cell' k1 (h1 (by omega)).2, k2, k3.ext e⟩
theorem RowsE.take {w : World} {a : Option Addr} {ll : List (List Int)} (h : RowsE w a ll) (k : Nat) : RowsE w a (ll.take k) := by
  obtain ⟨b, off, h1, h2⟩ := h
  have hl : (ll.take k).length ≤ ll.length := by rw [List.length_take]; omega
  refine ⟨b, off, fun h0 => h1 (by omega), fun i hi => ?_⟩
  have hi' : i < ll.length := by omega
  have e : rowI (ll.take k) i = rowI ll i := by
    rw [rowI_getElem _ _ hi, rowI_getElem _ _ hi']; simp
  rw [e]; exact h2 i hi'
end Go.Kt
namespace Go.Proofs.YtlaamecfknkmlaaGreat
set_option linter.unusedVariables false
open Go.RowKit Go.Kt
def DrewS (w : World) (g m : Nat) (n : Int) (e : Ending) (w' : World) : Prop :=
  ∃ (x : Nat) (q : Int), e = .returned (.int .i64 x) ∧ ((x : Int) < n ∨ (n < 1 ∧ x = 0)) ∧ Ext (w.setCell ⟨g, 1, none⟩ (.int .i64 q)) w' ∧ Rd w' g (m + 1) ∧ Touched w w' g (g + 1)
set_option maxHeartbeats 1000000 in
theorem pickS_c (g m : Nat) (n : Int) (w : World) (h : Rd w g m) (hm : m ≤ 1000000) :
    Calls Tryz.prog 54 #[.pointer (some ⟨g, 0, none⟩), .int .i64 n] w (DrewS w g m n) := by
  have H := Lib.hid h
  obtain ⟨p, hp, hc⟩ := h.pos
  obtain ⟨a, cap, l, b, off, h1, h2, h3, h4⟩ := h.src
  have hg := h.lt
  have hf := h.thaw.2 1
  have H3 := Lib.hid h3
  have H4 := Lib.hid h4
  have HD : Hid (Rd (w.setCell ⟨g, 1, none⟩ (.int .i64 ((p + 1 : Nat) : Int))) g (m + 1) ∧ Touched w (w.setCell ⟨g, 1, none⟩ (.int .i64 ((p + 1 : Nat) : Int))) g (g + 1)) := ⟨h.set _ _ (by omega), Touched.setCell _ _ _⟩
  have hcast : (((p + 1 : Nat)) : Int) = (p : Int) + 1 := by omega
  rw [hcast] at HD
  clear h h3 h4 hcast
  by_cases hn : n < 1
  · go_enter Tryz.func54, Tryz.ntmps54
    go_wp2
    go_ret
    exact ⟨0, (p : Int) + 1, rfl, .inr ⟨hn, rfl⟩, Ext.refl _, HD.out.1, HD.out.2⟩
  · by_cases hl : l.length = 0
    · go_enter Tryz.func54, Tryz.ntmps54
      go_wp2
      go_ret
      exact ⟨0, (p : Int) + 1, rfl, .inl (by omega), Ext.refl _, HD.out.1, HD.out.2⟩
    · obtain ⟨N, rfl⟩ := Int.eq_ofNat_of_zero_le (show 0 ≤ n by omega)
      have hN : 0 < N := by omega
      obtain ⟨rfl, hbg⟩ := H3.out (by omega)
      have hbne : ¬ b = g := by omega
      by_cases hk : p < l.length
      · obtain ⟨hcb, hb0, hb1⟩ := H4.out p hk
        obtain ⟨B, hB⟩ := Int.eq_ofNat_of_zero_le hb0
        rw [hB] at hcb hb1
        have hB1 : B ≤ 255 := by omega
        have ht : ((B : Int)).tmod (N : Int) = ((B % N : Nat) : Int) := rfl
        have hlt : B % N < N := Nat.mod_lt _ hN
        have hN0 : ((N : Int) == 0) = false := by simp; omega
        clear hB hb0 hb1
        go_enter Tryz.func54, Tryz.ntmps54
        go_wp2
        go_ret
        exact ⟨B % N, (p : Int) + 1, rfl, .inl (by omega), Ext.refl _, HD.out.1, HD.out.2⟩
      · have hL : 0 < l.length := by omega
        have hL0 : ((l.length : Int) == 0) = false := by rw [beq_eq_false_iff_ne]; omega
        have hN0 : ((N : Int) == 0) = false := by simp; omega
        have hi1 : p % l.length < l.length := Nat.mod_lt _ hL
        have hi2 : (p * 7 + 3) % l.length < l.length := Nat.mod_lt _ hL
        have hq : p / l.length ≤ p := Nat.div_le_self _ _
        have e1 : ((p : Int)).tmod (l.length : Int) = ((p % l.length : Nat) : Int) := rfl
        have e2 : ((p : Int) * 7 + 3).tmod (l.length : Int) = (((p * 7 + 3) % l.length : Nat) : Int) := rfl
        have e3 : ((p : Int)).tdiv (l.length : Int) = ((p / l.length : Nat) : Int) := rfl
        obtain ⟨hc1, hb10, hb11⟩ := H4.out _ hi1
        obtain ⟨hc2, hb20, hb21⟩ := H4.out _ hi2
        obtain ⟨X1, hX1⟩ := Int.eq_ofNat_of_zero_le hb10
        obtain ⟨X2, hX2⟩ := Int.eq_ofNat_of_zero_le hb20
        rw [hX1] at hc1 hb11
        rw [hX2] at hc2 hb21
        have hx1 : X1 ≤ 255 := by omega
        have hx2 : X2 ≤ 255 := by omega
        clear hX1 hX2 hb10 hb11 hb20 hb21
        generalize p % l.length = i1 at *
        generalize (p * 7 + 3) % l.length = i2 at *
        generalize p / l.length = q at *
        have f1 : IntKind.i64.wrap ((p : Int) * 7) = (p : Int) * 7 := IntWalk.i64_in _ (by omega)
        have f2 : IntKind.i64.wrap ((p : Int) * 7 + 3) = (p : Int) * 7 + 3 := IntWalk.i64_in _ (by omega)
        have f3 : IntKind.i64.wrap ((X1 : Int) * 131) = (X1 : Int) * 131 := IntWalk.i64_in _ (by omega)
        have f4 : IntKind.i64.wrap ((X2 : Int) * 1117) = (X2 : Int) * 1117 := IntWalk.i64_in _ (by omega)
        have f5 : IntKind.i64.wrap ((X1 : Int) * 131 + (X2 : Int) * 1117) = (X1 : Int) * 131 + (X2 : Int) * 1117 := IntWalk.i64_in _ (by omega)
        have f6 : IntKind.i64.wrap ((p : Int) * 29) = (p : Int) * 29 := IntWalk.i64_in _ (by omega)
        have f7 : IntKind.i64.wrap ((X1 : Int) * 131 + (X2 : Int) * 1117 + (p : Int) * 29) = (X1 : Int) * 131 + (X2 : Int) * 1117 + (p : Int) * 29 := IntWalk.i64_in _ (by omega)
        have f8 : IntKind.i64.wrap ((q : Int) * 53) = (q : Int) * 53 := IntWalk.i64_in _ (by omega)
        obtain ⟨T, hT⟩ : ∃ T : Nat, T = X1 * 131 + X2 * 1117 + p * 29 + q * 53 := ⟨_, rfl⟩
        have f9 : IntKind.i64.wrap ((X1 : Int) * 131 + (X2 : Int) * 1117 + (p : Int) * 29 + (q : Int) * 53) = (T : Int) := by
          rw [IntWalk.i64_in _ (by omega)]; omega
        have hTb : T < 4294967296 := by omega
        have f10 : ((T : Int)).tdiv 64 = ((T / 64 : Nat) : Int) := rfl
        have hTd : T / 64 < 4294967296 := by omega
        have hY : T ^^^ (T / 64) < 4294967296 := Nat.xor_lt_two_pow (n := 32) hTb hTd
        have f11 := i64_xor T (T / 64) (by omega) (by omega)
        generalize T / 64 = T64 at *
        generalize T ^^^ T64 = Y at *
        have f12 : ((Y : Int)).tmod (N : Int) = ((Y % N : Nat) : Int) := rfl
        have hlt : Y % N < N := Nat.mod_lt _ hN
        clear hT
        go_enter Tryz.func54, Tryz.ntmps54
        go_wp2
        go_quiet (fail)
        go_wp2
        go_ret
        exact ⟨Y % N, (p : Int) + 1, rfl, .inl (by omega), (by (repeat (first | exact Ext.refl _ | assumption | refine Ext.alloc ?_ _ | refine Ext.drewN ?_ _ | refine Ext.drew ?_))), HD.out.1.ext (by (repeat (first | exact Ext.refl _ | assumption | refine Ext.alloc ?_ _ | refine Ext.drewN ?_ _ | refine Ext.drew ?_))), HD.out.2.trans (Touched.of_ext (by (repeat (first | exact Ext.refl _ | assumption | refine Ext.alloc ?_ _ | refine Ext.drewN ?_ _ | refine Ext.drew ?_))))⟩

end Go.Proofs.YtlaamecfknkmlaaGreat
