/- Merged texts: contracts and plain lemmas (Rw). -/
import Derived.Test.YtlaamecfknkmlaaDoorMg16
import Derived.Test.YtlaamecfknkmlaaDoorMg18
import Derived.Test.YtlaamecfknkmlaaDoorMg19
import Derived.BigQuiet
/- Contracts: the program's reader of expressions: its small steps. -/
namespace Go.Kt
/-- Whether a byte stands at a place. -/
def hitB (s : ByteArray) (p : Nat) (c : UInt8) : Bool := ((bs s).drop p).head? == some c
theorem drop_at {s : ByteArray} {p : Nat} (h : p < s.size) : (bs s).drop p = s[p] :: (bs s).drop (p + 1) := by
  have h' : p < (bs s).length := h
  rw [List.drop_eq_getElem_cons h']
  rfl
theorem drop_out {s : ByteArray} {p : Nat} (h : ¬ p < s.size) : (bs s).drop p = [] := List.drop_eq_nil_of_le (by rw [bs_len]; omega)
theorem hit_in {s : ByteArray} {p : Nat} {c : UInt8} (h : p < s.size) : hitB s p c = (s[p] == c) := by
  unfold hitB; rw [drop_at h, Bool.eq_iff_iff]; simp
theorem hit_out {s : ByteArray} {p : Nat} {c : UInt8} (h : ¬ p < s.size) : hitB s p c = false := by
  unfold hitB; rw [drop_out h]; rfl
end Go.Kt
namespace Go.Proofs.YtlaamecfknkmlaaDoor
set_option linter.unusedVariables false
open Go.RowKit Go.Kt

/-- The block g is a reader of a text; it stands at p. -/
structure Kr (w : World) (g : Nat) (s : ByteArray) (p : Nat) : Prop where
  src : w.cell? ⟨g, 0, none⟩ = some (.string s)
  pos : w.cell? ⟨g, 1, none⟩ = some (.int .i64 p)
  thaw : Thawed w g
theorem Kr.lt {w : World} {g : Nat} {s : ByteArray} {p : Nat} (h : Kr w g s p) : g < w.heap.size := h.thaw.1
theorem Kr.ext {w w' : World} {g : Nat} {s : ByteArray} {p : Nat} (h : Kr w g s p) (e : Ext w w') : Kr w' g s p := ⟨e.cell' h.src h.lt, e.cell' h.pos h.lt, h.thaw.ext e⟩
theorem Kr.set {w : World} {g : Nat} {s : ByteArray} {p : Nat} (h : Kr w g s p) (q : Nat) : Kr (w.setCell ⟨g, 1, none⟩ (.int .i64 q)) g s q := by
  refine ⟨?_, ?_, h.thaw.setCell _ _⟩
  · have := h.src; simp [go_sem, this]
  · have := h.pos; simp [go_sem, this]
theorem set_drewN (w : World) (n : Nat) (a : Addr) (v : Value) : (w.drewN n).setCell a v = (w.setCell a v).drewN n := rfl
/-- A step of the reader that answers a truth. -/
def RetB (w : World) (g : Nat) (s : ByteArray) (q : Nat) (b : Bool) (e : Ending) (w' : World) : Prop := e = .returned (.bool b) ∧ Kr w' g s q ∧ Touched w w' g (g + 1)
set_option maxHeartbeats 1000000 in
theorem take_c (g p : Nat) (s : ByteArray) (c : UInt8) (C : Int) (hC : (c.toNat : Int) = C) (w : World) (h : Kr w g s p) (hs : s.size ≤ 199) (hp : p ≤ s.size) :
    Calls Tryd.prog 60 #[.pointer (some ⟨g, 0, none⟩), .int .u8 C] w (RetB w g s (if hitB s p c then p + 1 else p) (hitB s p c)) := by
  have HK := Lib.hid h
  have zg := h.lt
  have c0 := h.src
  have c1 := h.pos
  have hf := h.thaw.2 1
  clear h
  by_cases hlt : p < s.size
  · have HD : Hid (Kr (w.setCell ⟨g, 1, none⟩ (.int .i64 ((p + 1 : Nat) : Int))) g s (p + 1) ∧ Touched w (w.setCell ⟨g, 1, none⟩ (.int .i64 ((p + 1 : Nat) : Int))) g (g + 1)) := ⟨HK.out.set _, Touched.setCell _ _ _⟩
    have hcast : (((p + 1 : Nat)) : Int) = (p : Int) + 1 := by omega
    rw [hcast] at HD
    have HH := Lib.hid (hit_in (c := c) hlt)
    cases hx : (s[p] == c)
    · have hx' : (((s[p]).toNat : Int) == C) = false := by
        rw [← hC, beq_eq_false_iff_ne]
        intro e
        have e2 : s[p].toNat = c.toNat := by omega
        have e3 : s[p] = c := UInt8.toNat_inj.1 e2
        rw [e3] at hx; simp at hx
      have HB := Lib.hid (HH.out.trans hx)
      rw [HB.out]
      clear HH hx hC hcast HD
      go_enter Tryd.func60, Tryd.ntmps60
      go_wp2
      go_quiet (fail)
      go_wp2
      go_ret
      exact ⟨rfl, HK.out.ext (by (repeat (first | exact Ext.refl _ | assumption | refine Ext.alloc ?_ _ | refine Ext.drewN ?_ _ | refine Ext.drew ?_))), Touched.of_ext (by (repeat (first | exact Ext.refl _ | assumption | refine Ext.alloc ?_ _ | refine Ext.drewN ?_ _ | refine Ext.drew ?_)))⟩
    · have hx' : (((s[p]).toNat : Int) == C) = true := by
        have e3 : s[p] = c := by simpa using hx
        rw [e3, hC]; simp
      have HB := Lib.hid (HH.out.trans hx)
      rw [HB.out]
      clear HH hx hC hcast
      go_enter Tryd.func60, Tryd.ntmps60
      go_wp2
      go_quiet (fail)
      go_wp2
      go_ret
      exact ⟨rfl, by rw [set_drewN]; exact HD.out.1.ext (by (repeat (first | exact Ext.refl _ | assumption | refine Ext.alloc ?_ _ | refine Ext.drewN ?_ _ | refine Ext.drew ?_))), by rw [set_drewN]; exact HD.out.2.trans (Touched.of_ext (by (repeat (first | exact Ext.refl _ | assumption | refine Ext.alloc ?_ _ | refine Ext.drewN ?_ _ | refine Ext.drew ?_))))⟩
  · obtain rfl : p = s.size := by omega
    have HB := Lib.hid (hit_out (c := c) hlt)
    rw [HB.out]
    clear hC
    go_enter Tryd.func60, Tryd.ntmps60
    go_wp2
    go_quiet (fail)
    go_wp2
    go_ret
    exact ⟨rfl, HK.out.ext (by (repeat (first | exact Ext.refl _ | assumption | refine Ext.alloc ?_ _ | refine Ext.drewN ?_ _ | refine Ext.drew ?_))), Touched.of_ext (by (repeat (first | exact Ext.refl _ | assumption | refine Ext.alloc ?_ _ | refine Ext.drewN ?_ _ | refine Ext.drew ?_)))⟩
end Go.Proofs.YtlaamecfknkmlaaDoor
