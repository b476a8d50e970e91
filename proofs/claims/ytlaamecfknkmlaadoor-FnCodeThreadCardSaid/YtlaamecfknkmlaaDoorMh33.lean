/- Merged texts: contracts and plain lemmas (Pi). -/
import Derived.Test.YtlaamecfknkmlaaDoorMh31
import Derived.Test.YtlaamecfknkmlaaDoorMh29
import Derived.Deep.RegionLaw
/- Contracts: both programs of two, in the reference. -/
namespace Go.Proofs.YtlaamecfknkmlaaDoor
set_option linter.unusedVariables false
open Go.RowKit Go.Kt

/-- Both programs that the last word takes. -/
theorem l8Halves_c (b : Nat) (off cap : Nat) (l : List Int) (t : Pt) (o : Nat) (w : World) (hl : IntsAt w (some ⟨b, off, none⟩) l) (hg : t.Good) (hs : SegP l o t.words) (hn : o + t.words.length + 1 = l.length) (hcap : l.length ≤ cap) (hlen : l.length ≤ 4194304) :
    Calls Tryd.prog 78 #[.slice (some ⟨b, off, none⟩) l.length cap] w fun e w' => e = .returned (.tuple #[.slice (some ⟨b, off, none⟩) o cap, .slice (some ⟨b, off + o, none⟩) t.words.length (cap - o)]) ∧ w' = w.drew := by
  have hpos := t.words_pos
  have HN := Lib.hid (needP_seg l t hg o hs 1)
  obtain ⟨b1, o1, h1, h2⟩ := hl
  obtain ⟨he, hb⟩ := h1 (by omega)
  obtain ⟨rfl, rfl⟩ : b = b1 ∧ off = o1 := by simpa using he
  have H2 := Lib.hid h2
  have hw1 : IntKind.i64.wrap ((l.length : Int) - 1) = ((l.length - 1 : Nat) : Int) := by rw [IntWalk.i64_in _ (by omega)]; omega
  clear h1 h2 he hg hs
  obtain ⟨p, hp⟩ : ∃ p, l.length - 1 = p := ⟨_, rfl⟩
  have hop : o ≤ p := by omega
  have hpc : p ≤ cap := by omega
  have hoc : o ≤ cap := by omega
  have hco : ¬ cap - o = 0 := by omega
  have hpo : p - o = t.words.length := by omega
  have hpl : o + t.words.length = p := by omega
  rw [hpl] at HN
  rw [hp] at hw1
  go_enter Tryd.func78, Tryd.ntmps78
  go_wp2
  go_loop [5, 6] (fun nv av => Hid (∃ j : Nat, j ≤ t.words.length ∧ av = .int .i64 ((p - j : Nat) : Int) ∧ nv = .int .i64 (needP l p 1 j))) (fun _ av => (intOf av).toNat)
  case atStart => exact Lib.hid ⟨0, Nat.zero_le _, by simp, rfl⟩
  case round =>
    obtain ⟨j, hj, rfl, rfl⟩ := hrel.out
    clear hrel
    by_cases hlt2 : j < t.words.length
    · have hge := HN.out.1 j hlt2
      have hle := (needP_le l p 1 (by decide) j).2
      obtain ⟨q, hq⟩ : ∃ q, p - j = q + 1 := ⟨p - j - 1, by omega⟩
      have hstep : Hid (needP l p 1 (j + 1) = needP l p 1 j - 1 + tk (nth l q)) := by
        unfold Hid; simp only [needP]; rw [show p - 1 - j = q by omega]
      have hc := H2.out q (by omega)
      have hr := tk_ge (nth l q)
      have hcall : ∀ w0 : World, Calls Tryd.prog 77 #[.int .i64 (nth l q)] w0 fun e w' => e = .returned (.int .i64 (tk (nth l q))) ∧ w0 = w' := fun w0 => l8Takes_c _ w0
      have HC := Lib.hid hcall
      have hpl : q < l.length := by omega
      rw [hq]
      clear hcall
      generalize needP l p 1 j = N at *
      generalize tk (nth l q) = T at *
      generalize nth l q = x at *
      go_wp2_with (first | (go_at_call 77; refine (HC.out _).mono ?_; rintro e w' ⟨rfl, rfl⟩) | fail)
      go_round
      case rel => exact Lib.hid ⟨j + 1, by omega, by congr 1; omega, by rw [hstep.out]⟩
      case measure => simp [intOf]
    · obtain rfl : j = t.words.length := by omega
      have h0 := HN.out.2
      have ho : ((p - t.words.length : Nat) : Int) = o := by omega
      rw [h0, ho]
      go_wp2
      go_region
      go_wp2
      go_ret2
      exact ⟨rfl, rfl⟩
end Go.Proofs.YtlaamecfknkmlaaDoor
