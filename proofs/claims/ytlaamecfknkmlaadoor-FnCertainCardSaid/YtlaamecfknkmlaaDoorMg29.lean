/- Merged texts: contracts and plain lemmas (Sb). -/
import Derived.Test.YtlaamecfknkmlaaDoorMg28
import Derived.Defers
import Derived.Recover
/- Contracts: the program's reader of expressions, whole; and the closure that ReadKat defers. -/
namespace Go.Proofs.YtlaamecfknkmlaaDoor
set_option linter.unusedVariables false
open Go.RowKit Go.Kt

theorem sum_all (W0 : World) (g : Nat) (s : ByteArray) (hN : NamesW W0) (hg0 : W0.heap.size ≤ g) (hs : s.size ≤ 199) : ∀ d, SubC W0 g s 30 (rSum d) d
  | 0 => fun p w _ _ _ hd => absurd hd (Nat.not_lt_zero _)
  | d + 1 => by
    have h1 := single_c W0 g s d hN hg0 hs (sum_all W0 g s hN hg0 hs d)
    have h2 := star_c W0 g s (rSum d) (d + 1) hg0 hs (sum_fits d) h1
    have h3 : SubC W0 g s 59 (rProd (rSum d)) (d + 1) := prod_c W0 g s (rStar (rSum d)) (d + 1) hg0 hs (star_fits (sum_fits d)) (star_less (sum_less d)) h2
    exact sum0_c W0 g s (rProd (rSum d)) (d + 1) hg0 hs (prod_fits (sum_fits d)) (prod_less (sum_less d)) h3
theorem catchIdle_c (p q : Addr) (w : World) :
    CallsD Tryd.prog 29 #[.pointer (some p), .pointer (some q)] .returning w fun e u' w' => e = .returned (.tuple #[]) ∧ u' = .returning ∧ w' = w := by
  refine callsD_of_wpS Tryd.func29 rfl fun c₀ cs hu => ?_
  apply wpS_seq
  apply wpS_region
  simp [wpOpsS, go_sem, recoverD, hu, Tryd.ntmps29, Exit.thenS]
  refine wpS_of_wp ?_
  have hnil : ∀ w : World, (binOp BinOp.eql 20 .nilIface .nilIface).run Tryd.prog w = .ok (.bool true) w := fun _ => by kernel_rfl
  go_wp2
  cases c₀
  simp_all [bodyPostS, results, Tryd.results29]
theorem catchWrong_c (p q : Nat) (w : World) (hne : p ≠ q) (hp : p < w.heap.size) (hq : q < w.heap.size) (h1 : w.cell? ⟨p, 0, none⟩ = some (.slice none 0 0)) (h2 : w.cell? ⟨q, 0, none⟩ = some (.bool false)) (z1 : w.frozen? ⟨p, 0, none⟩ = false) (z2 : w.frozen? ⟨q, 0, none⟩ = false) :
    CallsD Tryd.prog 29 #[.pointer (some ⟨p, 0, none⟩), .pointer (some ⟨q, 0, none⟩)] (.panicking [{ v := .iface 54 (.agg #[]), recovered := false }]) w fun e u' w' => e = .returned (.tuple #[]) ∧ u' = .panicking [{ v := .iface 54 (.agg #[]), recovered := true }] ∧ w' = ((w.setCell ⟨p, 0, none⟩ (.slice none 0 0)).setCell ⟨q, 0, none⟩ (.bool false)).alloc (.cells #[] 54) := by
  refine callsD_of_wpS Tryd.func29 rfl fun c₀ cs hu => ?_
  apply wpS_seq
  apply wpS_region
  simp [wpOpsS, go_sem, recoverD, hu, Tryd.ntmps29, Exit.thenS]
  refine wpS_of_wp ?_
  have hnil : ∀ w : World, (binOp BinOp.eql 20 (.iface 54 (.agg #[])) .nilIface).run Tryd.prog w = .ok (.bool false) w := fun _ => by kernel_rfl
  have hta : ∀ w : World, (Instr.typeAssert (.iface 54 (.agg #[])) 20 54 true).run Tryd.prog w = .ok (.tuple #[.agg #[], .bool true]) w := fun _ => by kernel_rfl
  go_wp2
  cases c₀
  simp_all [bodyPostS, results, Tryd.results29]
end Go.Proofs.YtlaamecfknkmlaaDoor
