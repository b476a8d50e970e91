/- Merged texts: contracts and plain lemmas (Ir, Ro, Rg). -/
import Derived.Test.YtlaamecfknkmlaaGreatGt4
import Derived.Test.YtlaamecfknkmlaaGreatGt1
import Derived.Test.YtlaamecfknkmlaaGreatGt3
import Derived.Deep.RegionLaw
import Derived.Test.YtlaamecfknkmlaaGreatGt2
namespace Go.Kt
set_option linter.unusedVariables false
end Go.Kt
namespace Go.Proofs.YtlaamecfknkmlaaGreat
set_option linter.unusedVariables false
open Go.RowKit Go.Kt

theorem own_sized {w : World} {B E cap n : Nat} {a : Option Addr} {l : List Int} (h : OwnI w B E (.slice a n cap) l) (e : l.length = n) : OwnI w B E (.slice a l.length cap) l := by subst e; exact h
end Go.Proofs.YtlaamecfknkmlaaGreat
namespace Go.Proofs.YtlaamecfknkmlaaGreat
set_option linter.unusedVariables false
open Go.RowKit Go.Kt

end Go.Proofs.YtlaamecfknkmlaaGreat
namespace Go.Proofs.YtlaamecfknkmlaaGreat
set_option linter.unusedVariables false
open Go.RowKit Go.Kt

theorem two_halves (b off cap : Nat) (x : Int) (a c : Kt) (hc : c.Good) (w : World) (hl : IntsAt w (some ⟨b, off, none⟩) (Kt.two x a c).words) (hcap : (Kt.two x a c).words.length ≤ cap) (h40 : (Kt.two x a c).words.length ≤ 4194304) :
    Calls Tryz.prog 143 #[.slice (some ⟨b, off, none⟩) (a.words.length + c.words.length + 1) cap] w fun e w'' => e = .returned (.tuple #[.slice (some ⟨b, off, none⟩) a.words.length cap, .slice (some ⟨b, off + a.words.length, none⟩) c.words.length (cap - a.words.length)]) ∧ w'' = w.drew := by
  have hlen : (Kt.two x a c).words.length = a.words.length + c.words.length + 1 := by simp [Kt.words]; omega
  rw [← hlen]
  exact l2Halves_c b off cap (Kt.two x a c).words c a.words.length w hl hc (SegK.right (xs := a.words) (SegK.left (xs := a.words ++ c.words) (ys := [x]) (fun i _ => by rw [Nat.zero_add]; rfl)) |> fun h => by rwa [Nat.zero_add] at h) (by rw [hlen]) hcap h40
end Go.Proofs.YtlaamecfknkmlaaGreat
