/- Merged texts: contracts and plain lemmas (La, Lb). -/
import Derived.Test.YtlaamecfknkmlaaGreatGsKd
import Derived.Test.YtlaamecfknkmlaaGreatGs4
import Derived.Deep.DeepAppendRoom
import Derived.Test.YtlaamecfknkmlaaGreatGs1
namespace Go.Kt
set_option linter.unusedVariables false
open Go.RowKit
/-- A slice of n numbers, wherever it lies. -/
def HasN (w : World) (a : Option Addr) (n c : Nat) : Prop := n ≤ c ∧ ∃ L : List Int, L.length = n ∧ IntsE w (ek 3) a L
theorem HasN.ext {w w' : World} {a : Option Addr} {n c : Nat} (h : HasN w a n c) (e : Ext w w') : HasN w' a n c := by
  obtain ⟨h1, L, h2, h3⟩ := h
  exact ⟨h1, L, h2, h3.ext e⟩
end Go.Kt
namespace Go.Proofs.YtlaamecfknkmlaaGreat
set_option linter.unusedVariables false
open Go.RowKit Go.Kt
theorem ownI_fit {w : World} {B E n cap : Nat} {a : Option Addr} {l : List Int} (h : OwnI w B E (.slice a n cap) l) : n ≤ cap := by
  rcases h.2 with ⟨hv, _⟩ | ⟨g', cap', cur, hv, _, _, hn', _⟩
  · simp at hv; omega
  · simp at hv; omega
/-- A slice of n numbers of the call's own. -/
def OwnN (w : World) (B : Nat) (a : Option Addr) (n c : Nat) : Prop := ∃ L : List Int, L.length = n ∧ OwnI w B 3 (.slice a n c) L
theorem OwnN.of {w : World} {B n c : Nat} {a : Option Addr} {L : List Int} (h : OwnI w B 3 (.slice a n c) L) (hl : L.length = n) : OwnN w B a n c := ⟨L, hl, h⟩
theorem OwnN.ext {w w' : World} {B n c : Nat} {a : Option Addr} (h : OwnN w B a n c) (e : Ext w w') : OwnN w' B a n c := by
  obtain ⟨L, h1, h2⟩ := h
  exact ⟨L, h1, h2.ext e⟩
theorem OwnN.mono {w : World} {B B' n c : Nat} {a : Option Addr} (h : OwnN w B a n c) (e : B' ≤ B) : OwnN w B' a n c := by
  obtain ⟨L, h1, h2⟩ := h
  exact ⟨L, h1, OwnI.mono h2 e⟩
theorem OwnN.has {w : World} {B n c : Nat} {a : Option Addr} (h : OwnN w B a n c) : HasN w a n c := by
  obtain ⟨L, h1, h2⟩ := h
  exact ⟨ownI_fit h2, L, h1, h2.intsE⟩
theorem own_lit4 (w : World) (B : Nat) (x y z u : Int) (hB : B ≤ w.heap.size) : OwnI (w.alloc (.cells #[.int .i64 x, .int .i64 y, .int .i64 z, .int .i64 u] 3)) B 3 (.slice (some ⟨w.heap.size, 0, none⟩) 4 4) [x, y, z, u] :=
  World.ownsRow_lit (base := B) (e := 3) (size := 1) w #[.int .i64 x, .int .i64 y, .int .i64 z, .int .i64 u] 4 hB (by unfold maxLen; omega) rfl
set_option maxHeartbeats 1000000 in
theorem sKatActs_c (a : Option Addr) (cap : Nat) (l : List Int) (w : World) (hl : IntsAt w a l) (hlen : l.length ≤ 4194304) :
    Calls Tryz.prog 145 #[.slice a l.length cap] w fun e w' => (∃ x : Int, e = .returned (.int .i64 x)) ∧ w = w' := by
  have HL := Lib.hid hl
  cases hv : kvB l
  · clear hl
    go_enter Tryz.func145, Tryz.ntmps145
    go_wp2_with fail
    refine (sKatValid_c a cap l _ HL.out (by omega)).mono ?_
    rw [hv]
    rintro e w1 ⟨rfl, rfl⟩
    go_wp2
    go_ret
    exact ⟨⟨_, rfl⟩, rfl⟩
  · have h40 := kvB_len hv
    obtain ⟨b, off, h1, h2⟩ := hl
    obtain ⟨rfl, hb⟩ := h1 (by omega)
    have H2 := Lib.hid h2
    have HV := Lib.hid hv
    clear h1 h2 hv
    go_enter Tryz.func145, Tryz.ntmps145
    go_wp2_with fail
    refine (sKatValid_c _ cap l _ HL.out (by omega)).mono ?_
    rw [HV.out]
    rintro e w1 ⟨rfl, rfl⟩
    go_wp2
    go_loop [3, 4] (fun n i => Hid (∃ (k m : Nat), k ≤ l.length ∧ m ≤ k ∧ i = .int .i64 k ∧ n = .int .i64 m)) (fun _ i => l.length - (intOf i).toNat)
    case atStart => exact Lib.hid ⟨0, 0, Nat.zero_le _, Nat.le_refl _, rfl, rfl⟩
    case round =>
      obtain ⟨k, m, hk, hm, rfl, rfl⟩ := hrel.out
      clear hrel
      by_cases hlt : k < l.length
      · have hc := H2.out k hlt
        generalize nth l k = x at *
        have CI : Hid (∀ w' : World, Calls Tryz.prog 61 #[.int .i64 x, .int .i64 16, .int .i64 18] w' fun e w'' => e = .returned (.bool (inB x 16 18)) ∧ w' = w'') := fun w' => l1In_c x 16 18 w'
        cases hp : inB x 16 18
        all_goals
          rw [hp] at CI
          clear hp
          go_wp2_with (go_at_call 61; refine (CI.out _).mono ?_; rintro e w1 ⟨rfl, rfl⟩)
          go_round
          case rel => first
            | exact Lib.hid ⟨k + 1, m, by omega, by omega, by go_num, by go_num⟩
            | exact Lib.hid ⟨k + 1, m + 1, by omega, by omega, by go_num, by go_num⟩
          case measure => simp [intOf]; omega
      · obtain rfl : k = l.length := by omega
        go_wp2
        go_ret
        exact ⟨⟨_, rfl⟩, rfl⟩
end Go.Proofs.YtlaamecfknkmlaaGreat
namespace Go.Proofs.YtlaamecfknkmlaaGreat
set_option linter.unusedVariables false
open Go.RowKit Go.Kt
set_option maxRecDepth 100000 in
set_option maxHeartbeats 1000000 in
theorem l20Small_c (g m : Nat) (n : Int) (w : World) (h : Rd w g m) (hm : m ≤ 60000) :
    Calls Tryz.prog 87 #[.pointer (some ⟨g, 0, none⟩), .int .i64 n] w (DrewL w g (m + 600) 41) := by
  have hg := h.lt
  have HH := Lib.hid h
  clear h
  go_enter Tryz.func87, Tryz.ntmps87
  go_wp2_with fail
  refine (l20Prog_c g m 3 n _ (HH.out.ext (by (repeat (first | exact Ext.refl _ | assumption | refine Ext.alloc ?_ _ | refine Ext.drewN ?_ _ | refine Ext.drew ?_)))) (by omega) (by omega)).mono ?_
  rintro e w1 ⟨v1, L1, rfl, o1, hl1, hr, ht⟩
  have H1 : Hid (WordSt w w1 g (m + 600) v1 L1) := ⟨hg, o1.mono (by (try simp); try omega), hr, ht⟩
  obtain ⟨a1, c1, rfl⟩ := H1.out.shape
  clear o1 hr ht
  go_wp2_with fail
  refine (sKatActs_c a1 c1 L1 _ (H1.out.own.ints.ext (by (repeat (first | exact Ext.refl _ | assumption | refine Ext.alloc ?_ _ | refine Ext.drewN ?_ _ | refine Ext.drew ?_)))) (by omega)).mono ?_
  rintro e w2 ⟨⟨x, rfl⟩, rfl⟩
  have hz1 := H1.out.tch.size
  by_cases hx : 4 < x
  · go_wp2
    go_ret
    exact (H1.out.other (by (repeat (first | exact Ext.refl _ | assumption | refine Ext.alloc ?_ _ | refine Ext.drewN ?_ _ | refine Ext.drew ?_))) (own_lit4 _ _ 16 17 20 21 (by first | omega | (simp; omega)))).drewL (by simp) (by omega)
  · go_wp2
    go_ret
    exact (H1.out.ext (by (repeat (first | exact Ext.refl _ | assumption | refine Ext.alloc ?_ _ | refine Ext.drewN ?_ _ | refine Ext.drew ?_)))).drewL (by omega) (by omega)
def DrewNN (w : World) (g m : Nat) (e : Ending) (w' : World) : Prop :=
  ∃ (a1 a2 : Option Addr) (n1 c1 n2 c2 : Nat), e = .returned (.tuple #[.slice a1 n1 c1, .slice a2 n2 c2]) ∧ HasN w' a1 n1 c1 ∧ HasN w' a2 n2 c2 ∧ n1 ≤ 60 ∧ n2 ≤ 60 ∧ Rd w' g m ∧ Touched w w' g (g + 1)
theorem WordSt.has {w wr : World} {g m c : Nat} {a : Option Addr} {L : List Int} (h : WordSt w wr g m (.slice a L.length c) L) : HasN wr a L.length c := ⟨ownI_fit h.own, L, rfl, h.own.intsE⟩
theorem HasN.drawn {w w' : World} {a : Option Addr} {n c g : Nat} {B : Nat} (h : OwnN w B a n c) (t : Touched w w' g (g + 1)) (hg : g < B) : OwnN w' B a n c := by
  obtain ⟨L, h1, h2⟩ := h
  exact ⟨L, h1, OwnI.drawn h2 t hg⟩
/-- What is drawn, and what is made of it. -/
structure LawSt (w w0 : World) (g m : Nat) : Prop where
  rd : Rd w0 g m
  tch : Touched w w0 g (g + 1)
theorem LawSt.fin {w w0 w' : World} {g m M n1 c1 n2 c2 : Nat} {a1 a2 : Option Addr} (h : LawSt w w0 g m) (x : Ext w0 w') (k1 : HasN w' a1 n1 c1) (k2 : HasN w' a2 n2 c2) (h1 : n1 ≤ 60) (h2 : n2 ≤ 60) (hM : m ≤ M) : DrewNN w g M (.returned (.tuple #[.slice a1 n1 c1, .slice a2 n2 c2])) w' :=
  ⟨a1, a2, n1, c1, n2, c2, rfl, k1, k2, h1, h2, (h.rd.ext x).mono hM, h.tch.trans (Touched.of_ext x)⟩
end Go.Proofs.YtlaamecfknkmlaaGreat
