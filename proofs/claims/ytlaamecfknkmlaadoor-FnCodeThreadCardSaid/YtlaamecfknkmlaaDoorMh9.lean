/- Merged texts: contracts and plain lemmas (R). -/
import Derived.Test.YtlaamecfknkmlaaDoorMh3
import Derived.Test.YtlaamecfknkmlaaDoorMh8
import Derived.IntWalk
import Derived.BigQuiet
/- Contracts: the reader that draws arguments from bytes. -/
namespace Go.Proofs.YtlaamecfknkmlaaDoor
set_option linter.unusedVariables false
open Go.RowKit Go.Kt

/-- The block g is a reader over bytes that lie in an older block; it has picked at most m times. -/
structure Rd (w : World) (g m : Nat) : Prop where
  pos : ∃ p : Nat, p ≤ m ∧ w.cell? ⟨g, 1, none⟩ = some (.int .i64 p)
  src : ∃ a cap l b off, w.cell? ⟨g, 0, none⟩ = some (.slice a l.length cap) ∧ l.length ≤ 2000 ∧ (0 < l.length → a = some ⟨b, off, none⟩ ∧ b < g) ∧
    ∀ i, i < l.length → w.cell? ⟨b, off + i, none⟩ = some (.int .u8 (nth l i)) ∧ 0 ≤ nth l i ∧ nth l i ≤ 255
  thaw : Thawed w g
theorem Rd.lt {w : World} {g m : Nat} (h : Rd w g m) : g < w.heap.size := h.thaw.1
theorem Rd.ext {w w' : World} {g m : Nat} (h : Rd w g m) (e : Ext w w') : Rd w' g m := by
  have hg := h.lt
  obtain ⟨p, hp, hc⟩ := h.pos
  obtain ⟨a, cap, l, b, off, h1, h2, h3, h4⟩ := h.src
  exact ⟨⟨p, hp, e.cell' hc hg⟩, ⟨a, cap, l, b, off, e.cell' h1 hg, h2, h3, fun i hi => ⟨e.cell' (h4 i hi).1 (by have := (h3 (by omega)).2; omega), (h4 i hi).2⟩⟩, h.thaw.ext e⟩
theorem Rd.mono {w : World} {g m m' : Nat} (h : Rd w g m) (hm : m ≤ m') : Rd w g m' := by
  obtain ⟨p, hp, hc⟩ := h.pos
  exact ⟨⟨p, by omega, hc⟩, h.src, h.thaw⟩
/-- Blocks behind the reader, or older ones than its bytes, may turn. -/
theorem Rd.untouched {w w' : World} {g m B T : Nat} (h : Rd w g m) (t : Touched w w' B T) (hg : g < B) : Rd w' g m := by
  have hl := h.lt
  have cc : ∀ b o v, b ≤ g → w.cell? ⟨b, o, none⟩ = some v → w'.cell? ⟨b, o, none⟩ = some v := fun b o v hb hv =>
    (World.cell?_of_block (a := ⟨b, o, none⟩) (t.block b (by omega) (.inl (by omega)))).trans hv
  obtain ⟨p, hp, hc⟩ := h.pos
  obtain ⟨a, cap, l, b, off, h1, h2, h3, h4⟩ := h.src
  exact ⟨⟨p, hp, cc _ _ _ (Nat.le_refl _) hc⟩, ⟨a, cap, l, b, off, cc _ _ _ (Nat.le_refl _) h1, h2, h3, fun i hi => ⟨cc _ _ _ (by have := (h3 (by omega)).2; omega) (h4 i hi).1, (h4 i hi).2⟩⟩, h.thaw.untouched t (.inl hg)⟩
/-- The count is set. -/
theorem Rd.set {w : World} {g m : Nat} (h : Rd w g m) (p m' : Nat) (hp : p ≤ m') : Rd (w.setCell ⟨g, 1, none⟩ (.int .i64 p)) g m' := by
  obtain ⟨p0, hp0, hc⟩ := h.pos
  obtain ⟨a, cap, l, b, off, h1, h2, h3, h4⟩ := h.src
  refine ⟨⟨p, hp, by simp [go_sem, hc]⟩, ⟨a, cap, l, b, off, by simp [go_sem, h1], h2, h3, fun i hi => ⟨?_, (h4 i hi).2⟩⟩, h.thaw.setCell _ _⟩
  have := (h3 (by omega)).2
  simp [go_sem, (h4 i hi).1]
/-- What a draw of a number comes to. -/
def Drew (w : World) (g m : Nat) (n : Int) (e : Ending) (w' : World) : Prop :=
  ∃ x : Nat, e = .returned (.int .i64 x) ∧ ((x : Int) < n ∨ (n < 1 ∧ x = 0)) ∧ Rd w' g (m + 1) ∧ Touched w w' g (g + 1)

set_option maxHeartbeats 1000000 in
theorem pick_c (g m : Nat) (n : Int) (w : World) (h : Rd w g m) (hm : m ≤ 1000000) :
    Calls Tryd.prog 37 #[.pointer (some ⟨g, 0, none⟩), .int .i64 n] w (Drew w g m n) := by
  have H := Lib.hid h
  obtain ⟨p, hp, hc⟩ := h.pos
  obtain ⟨a, cap, l, b, off, h1, h2, h3, h4⟩ := h.src
  have hg := h.lt
  have hf := h.thaw.2 1
  have H3 := Lib.hid h3
  have H4 := Lib.hid h4
  have HD : Hid (Rd (w.setCell ⟨g, 1, none⟩ (.int .i64 ((p + 1 : Nat) : Int))) g (m + 1) ∧ Touched w (w.setCell ⟨g, 1, none⟩ (.int .i64 ((p + 1 : Nat) : Int))) g (g + 1)) := ⟨h.set _ _ (by omega), Touched.setCell _ _ _⟩
  have hcast : (((p + 1 : Nat)) : Int) = (p : Int) + 1 := by omega
  rw [hcast] at HD
  clear h h3 h4 hcast
  by_cases hn : n < 1
  · go_enter Tryd.func37, Tryd.ntmps37
    go_wp2
    go_ret
    exact ⟨0, rfl, .inr ⟨hn, rfl⟩, HD.out.1, HD.out.2⟩
  · by_cases hl : l.length = 0
    · go_enter Tryd.func37, Tryd.ntmps37
      go_wp2
      go_ret
      exact ⟨0, rfl, .inl (by omega), HD.out.1, HD.out.2⟩
    · obtain ⟨N, rfl⟩ := Int.eq_ofNat_of_zero_le (show 0 ≤ n by omega)
      have hN : 0 < N := by omega
      obtain ⟨rfl, hbg⟩ := H3.out (by omega)
      have hbne : ¬ b = g := by omega
      by_cases hk : p < l.length
      · obtain ⟨hcb, hb0, hb1⟩ := H4.out p hk
        obtain ⟨B, hB⟩ := Int.eq_ofNat_of_zero_le hb0
        rw [hB] at hcb hb1
        have hB1 : B ≤ 255 := by omega
        have ht : ((B : Int)).tmod (N : Int) = ((B % N : Nat) : Int) := rfl
        have hlt : B % N < N := Nat.mod_lt _ hN
        have hN0 : ((N : Int) == 0) = false := by simp; omega
        clear hB hb0 hb1
        go_enter Tryd.func37, Tryd.ntmps37
        go_wp2
        go_ret
        exact ⟨B % N, rfl, .inl (by omega), HD.out.1, HD.out.2⟩
      · have hL : 0 < l.length := by omega
        have hL0 : ((l.length : Int) == 0) = false := by rw [beq_eq_false_iff_ne]; omega
        have hN0 : ((N : Int) == 0) = false := by simp; omega
        have hi1 : p % l.length < l.length := Nat.mod_lt _ hL
        have hi2 : (p * 7 + 3) % l.length < l.length := Nat.mod_lt _ hL
        have hq : p / l.length ≤ p := Nat.div_le_self _ _
        have e1 : ((p : Int)).tmod (l.length : Int) = ((p % l.length : Nat) : Int) := rfl
        have e2 : ((p : Int) * 7 + 3).tmod (l.length : Int) = (((p * 7 + 3) % l.length : Nat) : Int) := rfl
        have e3 : ((p : Int)).tdiv (l.length : Int) = ((p / l.length : Nat) : Int) := rfl
        obtain ⟨hc1, hb10, hb11⟩ := H4.out _ hi1
        obtain ⟨hc2, hb20, hb21⟩ := H4.out _ hi2
        obtain ⟨X1, hX1⟩ := Int.eq_ofNat_of_zero_le hb10
        obtain ⟨X2, hX2⟩ := Int.eq_ofNat_of_zero_le hb20
        rw [hX1] at hc1 hb11
        rw [hX2] at hc2 hb21
        have hx1 : X1 ≤ 255 := by omega
        have hx2 : X2 ≤ 255 := by omega
        clear hX1 hX2 hb10 hb11 hb20 hb21
        generalize p % l.length = i1 at *
        generalize (p * 7 + 3) % l.length = i2 at *
        generalize p / l.length = q at *
        have f1 : IntKind.i64.wrap ((p : Int) * 7) = (p : Int) * 7 := IntWalk.i64_in _ (by omega)
        have f2 : IntKind.i64.wrap ((p : Int) * 7 + 3) = (p : Int) * 7 + 3 := IntWalk.i64_in _ (by omega)
        have f3 : IntKind.i64.wrap ((X1 : Int) * 131) = (X1 : Int) * 131 := IntWalk.i64_in _ (by omega)
        have f4 : IntKind.i64.wrap ((X2 : Int) * 1117) = (X2 : Int) * 1117 := IntWalk.i64_in _ (by omega)
        have f5 : IntKind.i64.wrap ((X1 : Int) * 131 + (X2 : Int) * 1117) = (X1 : Int) * 131 + (X2 : Int) * 1117 := IntWalk.i64_in _ (by omega)
        have f6 : IntKind.i64.wrap ((p : Int) * 29) = (p : Int) * 29 := IntWalk.i64_in _ (by omega)
        have f7 : IntKind.i64.wrap ((X1 : Int) * 131 + (X2 : Int) * 1117 + (p : Int) * 29) = (X1 : Int) * 131 + (X2 : Int) * 1117 + (p : Int) * 29 := IntWalk.i64_in _ (by omega)
        have f8 : IntKind.i64.wrap ((q : Int) * 53) = (q : Int) * 53 := IntWalk.i64_in _ (by omega)
        obtain ⟨T, hT⟩ : ∃ T : Nat, T = X1 * 131 + X2 * 1117 + p * 29 + q * 53 := ⟨_, rfl⟩
        have f9 : IntKind.i64.wrap ((X1 : Int) * 131 + (X2 : Int) * 1117 + (p : Int) * 29 + (q : Int) * 53) = (T : Int) := by
          rw [IntWalk.i64_in _ (by omega)]; omega
        have hTb : T < 4294967296 := by omega
        have f10 : ((T : Int)).tdiv 64 = ((T / 64 : Nat) : Int) := rfl
        have hTd : T / 64 < 4294967296 := by omega
        have hY : T ^^^ (T / 64) < 4294967296 := Nat.xor_lt_two_pow (n := 32) hTb hTd
        have f11 := i64_xor T (T / 64) (by omega) (by omega)
        generalize T / 64 = T64 at *
        generalize T ^^^ T64 = Y at *
        have f12 : ((Y : Int)).tmod (N : Int) = ((Y % N : Nat) : Int) := rfl
        have hlt : Y % N < N := Nat.mod_lt _ hN
        clear hT
        go_enter Tryd.func37, Tryd.ntmps37
        go_wp2
        go_quiet (fail)
        go_wp2
        go_ret
        exact ⟨Y % N, rfl, .inl (by omega), HD.out.1.ext (by (repeat (first | exact Ext.refl _ | assumption | refine Ext.alloc ?_ _ | refine Ext.drewN ?_ _ | refine Ext.drew ?_))), HD.out.2.trans (Touched.of_ext (by (repeat (first | exact Ext.refl _ | assumption | refine Ext.alloc ?_ _ | refine Ext.drewN ?_ _ | refine Ext.drew ?_))))⟩

/-- What a draw of a truth comes to. -/
def DrewB (w : World) (g m : Nat) (e : Ending) (w' : World) : Prop := ∃ b : Bool, e = .returned (.bool b) ∧ Rd w' g (m + 1) ∧ Touched w w' g (g + 1)
theorem odd_c (g m : Nat) (n : Int) (w : World) (h : Rd w g m) (hm : m ≤ 1000000) :
    Calls Tryd.prog 45 #[.pointer (some ⟨g, 0, none⟩), .int .i64 n] w (DrewB w g m) := by
  by_cases hn : 0 < n
  · go_enter Tryd.func45, Tryd.ntmps45
    go_wp2_with fail
    refine (pick_c g m n w h hm).mono ?_
    rintro e w1 ⟨x, rfl, hx, hr, ht⟩
    by_cases hx2 : (x : Int) = n - 1
    all_goals
      go_wp2
      go_ret
      exact ⟨_, rfl, hr, ht⟩
  · go_enter Tryd.func45, Tryd.ntmps45
    go_wp2
    go_ret
    exact ⟨_, rfl, h.mono (by omega), Touched.refl _ _ _⟩

/-- What opening a reader comes to. -/
def Opened (w : World) (e : Ending) (w' : World) : Prop := ∃ g, e = .returned (.pointer (some ⟨g, 0, none⟩)) ∧ w.heap.size ≤ g ∧ Rd w' g 0 ∧ Ext w w'
theorem l20Open_c (a : Option Addr) (cap : Nat) (l : List Int) (w : World) (h : BytesAt w a l) (hlen : l.length ≤ 1048576) (hcap : l.length ≤ cap) :
    Calls Tryd.prog 21 #[.slice a l.length cap] w (Opened w) := by
  obtain ⟨b, off, h1, h2⟩ := h
  have H1 := Lib.hid h1
  have H2 := Lib.hid h2
  clear h1 h2
  by_cases hl : 2000 < l.length
  · obtain ⟨rfl, hb⟩ := H1.out (by omega)
    go_enter Tryd.func21, Tryd.ntmps21
    go_wp2
    go_ret
    refine ⟨w.heap.size, rfl, Nat.le_refl _, ?_, by (repeat (first | exact Ext.refl _ | assumption | refine Ext.alloc ?_ _ | refine Ext.drewN ?_ _ | refine Ext.drew ?_))⟩
    refine ⟨⟨0, Nat.le_refl _, by simp [go_sem]⟩, ⟨some ⟨b, off, none⟩, cap, l.take 2000, b, off, ?_, ?_, fun _ => ⟨rfl, hb⟩, fun i hi => ?_⟩, ⟨by simp, fun o => by simp [go_sem]⟩⟩
    · simp [go_sem]; omega
    · simp; omega
    · have hi2 : i < l.length := by simp at hi; omega
      have e1 : nth (l.take 2000) i = nth l i := by
        rw [nth_getElem _ _ hi, nth_getElem _ _ hi2]; simp
      rw [e1]
      exact ⟨Ext.cell' ((Ext.refl w).alloc _) (H2.out i hi2).1 hb, (H2.out i hi2).2⟩
  · go_enter Tryd.func21, Tryd.ntmps21
    go_wp2
    go_ret
    refine ⟨w.heap.size, rfl, Nat.le_refl _, ?_, by (repeat (first | exact Ext.refl _ | assumption | refine Ext.alloc ?_ _ | refine Ext.drewN ?_ _ | refine Ext.drew ?_))⟩
    refine ⟨⟨0, Nat.le_refl _, by simp [go_sem]⟩, ⟨a, cap, l, b, off, by simp [go_sem], by omega, fun h0 => H1.out h0, fun i hi => ?_⟩, ⟨by simp, fun o => by simp [go_sem]⟩⟩
    exact ⟨Ext.cell' ((Ext.refl w).alloc _) (H2.out i hi).1 (H1.out (by omega)).2, (H2.out i hi).2⟩
end Go.Proofs.YtlaamecfknkmlaaDoor
