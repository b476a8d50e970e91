/- Contracts: codes drawn from bytes; two lists of truths compared. -/
import Derived.Test.YtnhdachenckceaaIn
import Derived.Test.YtnhdachenckceaaCd
import Derived.Test.YtnhdachenckceaaLProgValid
namespace Go.Proofs.Ytnhdachenckceaa
set_option linter.unusedVariables false
open Go.RowKit Go.Kt

/-- What drawing a code from bytes comes to. -/
def DrewC (w : World) (e : Ending) (w' : World) : Prop := ∃ v n L, e = .returned v ∧ OwnF w' w.heap.size 49 v n L ∧ n ≤ 42 ∧ Ext w w'
theorem drawCodeValid_c (a : Option Addr) (cap : Nat) (l : List Int) (w : World) (h : BytesAt w a l) (hlen : l.length ≤ 1048576) (hcap : l.length ≤ cap) :
    Calls Try.prog 40 #[.slice a l.length cap] w (DrewC w) := by
  go_enter Try.func40, Try.ntmps40
  go_wp2_with fail
  refine (l20Open_c a cap l _ (h.ext (by (repeat (first | exact Ext.refl _ | assumption | refine Ext.alloc ?_ _ | refine Ext.drewN ?_ _ | refine Ext.drew ?_)))) hlen hcap).mono ?_
  rintro e w1 ⟨g, rfl, hg, hr0, hx0⟩
  have hx1 := Lib.hid (Ext.trans (show Ext w _ by (repeat (first | exact Ext.refl _ | assumption | refine Ext.alloc ?_ _ | refine Ext.drewN ?_ _ | refine Ext.drew ?_))) hx0)
  have hz1 := hx1.out.size
  have HC : Hid (∀ w', Ext w1 w' → Calls Try.prog 66 #[.pointer (some ⟨g, 0, none⟩), .int .i64 2] w' (DrewF w' g (0 + 700))) := fun w' hx => l20Instructions_c g 0 2 w' (hr0.ext hx) (by decide)
  have HG : Hid (w.heap.size ≤ g) := hg
  clear hr0 hx0 h hg
  go_wp2_with fail
  refine (HC.out _ (by (repeat (first | exact Ext.refl _ | assumption | refine Ext.alloc ?_ _ | refine Ext.drewN ?_ _ | refine Ext.drew ?_)))).mono ?_
  rintro e w2 ⟨v, n, L, rfl, o, hn, -, ht⟩
  go_wp2
  go_ret
  exact ⟨v, n, L, rfl, o.mono (by first | exact hz1 | (simp; exact hz1)), hn, ht.ext (hx1.out.trans (by (repeat (first | exact Ext.refl _ | assumption | refine Ext.alloc ?_ _ | refine Ext.drewN ?_ _ | refine Ext.drew ?_)))) HG.out⟩
theorem drawCodeReached_c (a : Option Addr) (cap : Nat) (l : List Int) (w : World) (h : BytesAt w a l) (hlen : l.length ≤ 1048576) (hcap : l.length ≤ cap) :
    Calls Try.prog 48 #[.slice a l.length cap] w (DrewC w) := by
  go_enter Try.func48, Try.ntmps48
  go_wp2_with fail
  refine (l20Open_c a cap l _ (h.ext (by (repeat (first | exact Ext.refl _ | assumption | refine Ext.alloc ?_ _ | refine Ext.drewN ?_ _ | refine Ext.drew ?_)))) hlen hcap).mono ?_
  rintro e w1 ⟨g, rfl, hg, hr0, hx0⟩
  have hx1 := Lib.hid (Ext.trans (show Ext w _ by (repeat (first | exact Ext.refl _ | assumption | refine Ext.alloc ?_ _ | refine Ext.drewN ?_ _ | refine Ext.drew ?_))) hx0)
  have hz1 := hx1.out.size
  have HC : Hid (∀ w', Ext w1 w' → Calls Try.prog 66 #[.pointer (some ⟨g, 0, none⟩), .int .i64 9] w' (DrewF w' g (0 + 700))) := fun w' hx => l20Instructions_c g 0 9 w' (hr0.ext hx) (by decide)
  have HG : Hid (w.heap.size ≤ g) := hg
  clear hr0 hx0 h hg
  go_wp2_with fail
  refine (HC.out _ (by (repeat (first | exact Ext.refl _ | assumption | refine Ext.alloc ?_ _ | refine Ext.drewN ?_ _ | refine Ext.drew ?_)))).mono ?_
  rintro e w2 ⟨v, n, L, rfl, o, hn, -, ht⟩
  go_wp2
  go_ret
  exact ⟨v, n, L, rfl, o.mono (by first | exact hz1 | (simp; exact hz1)), hn, ht.ext (hx1.out.trans (by (repeat (first | exact Ext.refl _ | assumption | refine Ext.alloc ?_ _ | refine Ext.drewN ?_ _ | refine Ext.drew ?_)))) HG.out⟩
set_option maxRecDepth 100000 in
theorem sameBools_c (a a' : Option Addr) (cap cap' : Nat) (l : List Bool) (w : World) (hl : BoolsAt w a l) (hl' : BoolsAt w a' l) (hlen : l.length ≤ 4611686018427387904) :
    Calls Try.prog 49 #[.slice a l.length cap, .slice a' l.length cap'] w fun e w' => e = .returned (.bool true) ∧ Ext w w' := by
  obtain ⟨b, off, h1, h2⟩ := hl
  obtain ⟨b', off', h1', h2'⟩ := hl'
  have H1 := Lib.hid h1
  have H2 := Lib.hid h2
  have H1' := Lib.hid h1'
  have H2' := Lib.hid h2'
  clear h1 h2 h1' h2'
  have hne : (((l.length : Nat) : Int) != ((l.length : Nat) : Int)) = false := by simp
  go_enter Try.func49, Try.ntmps49
  go_wp2
  go_loopw [5] (fun i wr => Hid (∃ k : Nat, k ≤ l.length ∧ i = .int .i64 k ∧ ∃ m, wr = w.drewN m)) (fun i _ => l.length - (intOf i).toNat)
  case atStart => exact Lib.hid ⟨0, Nat.zero_le _, rfl, 0, rfl⟩
  case round =>
    obtain ⟨k, hk, rfl, m, rfl⟩ := hrel.out
    clear hrel
    by_cases hlt : k < l.length
    · obtain ⟨rfl, hb⟩ := H1.out (by omega)
      obtain ⟨rfl, hb'⟩ := H1'.out (by omega)
      have hc := H2.out k hlt
      have hc' := H2'.out k hlt
      have hq : (nthB l k != nthB l k) = false := by simp
      generalize nthB l k = x at *
      go_wp2
      go_quiet (fail)
      go_wp2
      go_roundw
      case rel => exact Lib.hid ⟨k + 1, by omega, by go_num, by first | exact ⟨_, rfl⟩ | exact drawn2 _ _ _⟩
      case measure => simp [intOf]; omega
    · obtain rfl : k = l.length := by omega
      go_wp2
      go_ret
      exact ⟨rfl, by (repeat (first | exact Ext.refl _ | assumption | refine Ext.alloc ?_ _ | refine Ext.drewN ?_ _ | refine Ext.drew ?_))⟩
end Go.Proofs.Ytnhdachenckceaa
