/- Merged texts: contracts and plain lemmas (G). -/
import Derived.Test.YtlaamecfknkmlaaGreatGu2
/- Contracts: validity of models. -/
namespace Go.Proofs.YtlaamecfknkmlaaGreat
set_option linter.unusedVariables false
open Go.RowKit Go.Kt

/-- A model is valid. -/
def mvB (st p q : Int) (ll : List (List Int)) : Bool := decide (1 ≤ st ∧ st ≤ 5 ∧ (0 ≤ p ∧ p < 2 ^ st.toNat) ∧ (0 ≤ q ∧ q < 2 ^ st.toNat) ∧ ll.length = 3 ∧ ∀ r ∈ ll, rvB st r = true)
/-- A model as a value. -/
abbrev modelV (st p q : Int) (a : Option Addr) (n cap : Nat) : Value := .agg #[.int .i64 st, .int .i64 p, .int .i64 q, .slice a n cap]
/-- What slices.IndexFunc answers over rows. -/
def findR (p : List Int → Bool) (l : List (List Int)) : Int := if l.any p then ((l.findIdx p : Nat) : Int) else -1
theorem findR_none (p : List Int → Bool) (l : List (List Int)) (h : ∀ j, j < l.length → p (rowI l j) = false) : findR p l = -1 := by
  unfold findR
  rw [if_neg]
  rw [List.any_eq_true]
  rintro ⟨x, hx, hp⟩
  obtain ⟨j, hj, rfl⟩ := List.getElem_of_mem hx
  have := h j hj
  rw [rowI_getElem l j hj] at this
  rw [this] at hp; cases hp
theorem findR_at (p : List Int → Bool) (l : List (List Int)) (k : Nat) (hk : k < l.length) (h : ∀ j, j < k → p (rowI l j) = false) (hp : p (rowI l k) = true) : findR p l = k := by
  unfold findR
  rw [rowI_getElem l k hk] at hp
  rw [if_pos (List.any_eq_true.2 ⟨_, List.getElem_mem hk, hp⟩)]
  congr 1
  rw [List.findIdx_eq hk]
  refine ⟨hp, fun j hj => ?_⟩
  have := h j hj
  rwa [rowI_getElem l j (by omega)] at this
theorem findR_nonneg (p : List Int → Bool) (l : List (List Int)) : decide (0 ≤ findR p l) = l.any p := by
  unfold findR
  cases l.any p <;> simp

theorem indexFuncR_c (a : Option Addr) (cap : Nat) (l : List (List Int)) (cv : Value) (p : List Int → Bool) (w : World) (hl : RowsAt w a l) (hlen : l.length ≤ 4611686018427387904)
    (hf : ∀ ai ci r w1, r ∈ l → Ext w w1 → IntsAt w1 ai r → Calls Tryz.prog 138 #[.slice ai r.length ci, cv] w1 fun e w' => e = .returned (.bool (p r)) ∧ Ext w1 w') :
    Calls Tryz.prog 134 #[.slice a l.length cap, .func (.func 138) #[] #[cv]] w fun e w' => e = .returned (.int .i64 (findR p l)) ∧ Ext w w' := by
  obtain ⟨b, off, h1, h2⟩ := hl
  have H1 := Lib.hid h1
  have H2 := Lib.hid h2
  have HF := Lib.hid hf
  clear h1 h2 hf
  go_enter Tryz.func134, Tryz.ntmps134
  go_wp2
  go_loopw [8] (fun i wr => Hid (∃ k : Nat, k ≤ l.length ∧ i = .int .i64 k ∧ (∀ j, j < k → p (rowI l j) = false) ∧ Ext w wr)) (fun i _ => l.length - (intOf i).toNat)
  case atStart => exact Lib.hid ⟨0, Nat.zero_le _, rfl, fun j hj => absurd hj (Nat.not_lt_zero _), Ext.refl _⟩
  case round =>
    obtain ⟨k, hk, rfl, hno, hx⟩ := hrel.out
    clear hrel
    have hno' := Lib.hid hno
    clear hno
    by_cases hlt : k < l.length
    · obtain ⟨rfl, hb⟩ := H1.out (by omega)
      obtain ⟨ai, ci, hcw, hi⟩ := H2.out k hlt
      have hc := hx.cell' hcw hb
      have hmem := rowI_mem l k hlt
      cases hp : p (rowI l k)
      all_goals
        have hp' := Lib.hid hp
        have hcall := Lib.hid (HF.out ai ci (rowI l k) wr hmem hx (hi.ext hx))
        rw [hp] at hcall
        clear hp hmem hcw hi
        go_wp2_with fail
        refine (hcall.out).mono ?_
        rintro e w1 ⟨rfl, hx1⟩
        go_wp2
      · go_roundw
        case rel => exact Lib.hid ⟨k + 1, by omega, by go_num, upto_succ hno'.out hp'.out, hx.trans hx1⟩
        case measure => simp [intOf]; omega
      · go_ret
        exact ⟨by rw [findR_at p l k hlt hno'.out hp'.out]; rfl, hx.trans hx1⟩
    · obtain rfl : k = l.length := by omega
      go_wp2
      go_ret
      exact ⟨by rw [findR_none p l hno'.out]; rfl, hx⟩

theorem containsFuncR_c (a : Option Addr) (cap : Nat) (l : List (List Int)) (cv : Value) (p : List Int → Bool) (w : World) (hl : RowsAt w a l) (hlen : l.length ≤ 4611686018427387904)
    (hf : ∀ ai ci r w1, r ∈ l → Ext w w1 → IntsAt w1 ai r → Calls Tryz.prog 138 #[.slice ai r.length ci, cv] w1 fun e w' => e = .returned (.bool (p r)) ∧ Ext w1 w') :
    Calls Tryz.prog 72 #[.slice a l.length cap, .func (.func 138) #[] #[cv]] w fun e w' => e = .returned (.bool (l.any p)) ∧ Ext w w' := by
  have HC := Lib.hid (indexFuncR_c a cap l cv p w hl hlen hf)
  clear hf hl
  go_enter Tryz.func72, Tryz.ntmps72
  go_wp2_with fail
  refine HC.out.mono ?_
  rintro e w1 ⟨rfl, hx⟩
  go_wp2
  go_ret
  exact ⟨by rw [← findR_nonneg]; rfl, hx⟩

/-- Rows that are not valid for so many states. -/
def badRows (st : Int) (r : List Int) : Bool := !rvB st r

theorem mvClosure_c (b : Nat) (st : Int) (ai : Option Addr) (ci : Nat) (r : List Int) (w : World) (hr : r.length ≤ 4611686018427387904) (hi : IntsAt w ai r) (hb : w.cell? ⟨b, 0, none⟩ = some (.int .i64 st)) :
    Calls Tryz.prog 138 #[.slice ai r.length ci, .pointer (some ⟨b, 0, none⟩)] w fun e w' => e = .returned (.bool (badRows st r)) ∧ Ext w w' := by
  go_enter Tryz.func138, Tryz.ntmps138
  go_wp2_with (go_at_call 34; refine (iRowsValid_c _ _ _ _ _ hi hr).mono ?_; rintro e w1 ⟨rfl, hx⟩)
  go_ret
  exact ⟨rfl, hx⟩

theorem mv_any (st : Int) (ll : List (List Int)) : (!ll.any (badRows st)) = true ↔ ∀ r ∈ ll, rvB st r = true := by
  simp [badRows]
theorem mvB_of (s : Nat) (p q : Int) (ll : List (List Int)) (h1 : 1 ≤ s) (h2 : s ≤ 5) : mvB s p q ll = (setB s p && (setB s q && (decide (ll.length = 3) && !ll.any (badRows s)))) := by
  rw [Bool.eq_iff_iff]
  simp only [mvB, setB, Bool.and_eq_true, decide_eq_true_eq, mv_any, Int.toNat_natCast]
  constructor
  · rintro ⟨_, _, a, b, c, d⟩; exact ⟨a, b, c, d⟩
  · rintro ⟨a, b, c, d⟩; exact ⟨by omega, by omega, a, b, c, d⟩
theorem mvB_out (st p q : Int) (ll : List (List Int)) (h : ¬ (1 ≤ st ∧ st ≤ 5)) : mvB st p q ll = false := by
  simp [mvB]; omega

theorem iModelValid_c (st p q : Int) (a : Option Addr) (cap : Nat) (ll : List (List Int)) (w : World) (hr : RowsAt w a ll) (hlen : ll.length ≤ 4194304) (hm : ∀ i, i < ll.length → (rowI ll i).length ≤ 4194304) :
    Calls Tryz.prog 79 #[modelV st p q a ll.length cap] w fun e w' => e = .returned (.bool (mvB st p q ll)) ∧ Ext w w' := by
  have HR := Lib.hid hr
  have HM := Lib.hid hm
  clear hr hm
  by_cases h1 : 1 ≤ st ∧ st ≤ 5
  · obtain ⟨s, rfl⟩ := Int.eq_ofNat_of_zero_le (show 0 ≤ st by omega)
    have hd : decide (1 ≤ (s : Int) ∧ (s : Int) ≤ 5) = true := by simp; omega
    have HV := Lib.hid (mvB_of s p q ll (by omega) (by omega))
    have hs5 : s ≤ 5 := by omega
    cases hp : setB s p
    · go_enter Tryz.func79, Tryz.ntmps79
      go_wp2_with fail
      refine (hasStates_c _ _).mono ?_
      rintro e w1 ⟨rfl, rfl⟩
      go_wp2_with fail
      refine (isSet_c _ _ _ hs5).mono ?_
      rintro e w1 ⟨rfl, rfl⟩
      go_wp2
      go_ret
      exact ⟨by rw [HV.out, hp]; rfl, by (repeat (first | exact Ext.refl _ | assumption | refine Ext.alloc ?_ _ | refine Ext.drewN ?_ _ | refine Ext.drew ?_))⟩
    · cases hq : setB s q
      · go_enter Tryz.func79, Tryz.ntmps79
        go_wp2_with fail
        refine (hasStates_c _ _).mono ?_
        rintro e w1 ⟨rfl, rfl⟩
        go_wp2_with fail
        refine (isSet_c _ _ _ hs5).mono ?_
        rintro e w1 ⟨rfl, rfl⟩
        go_wp2_with fail
        refine (isSet_c _ _ _ hs5).mono ?_
        rintro e w1 ⟨rfl, rfl⟩
        go_wp2
        go_ret
        exact ⟨by rw [HV.out, hp, hq]; rfl, by (repeat (first | exact Ext.refl _ | assumption | refine Ext.alloc ?_ _ | refine Ext.drewN ?_ _ | refine Ext.drew ?_))⟩
      · by_cases h3 : ll.length = 3
        · have hne : (((ll.length : Nat) : Int) != 3) = false := by simp [h3]
          have H3 := Lib.hid h3
          clear h3
          go_enter Tryz.func79, Tryz.ntmps79
          go_wp2_with fail
          refine (hasStates_c _ _).mono ?_
          rintro e w1 ⟨rfl, rfl⟩
          go_wp2_with fail
          refine (isSet_c _ _ _ hs5).mono ?_
          rintro e w1 ⟨rfl, rfl⟩
          go_wp2_with fail
          refine (isSet_c _ _ _ hs5).mono ?_
          rintro e w1 ⟨rfl, rfl⟩
          go_wp2_with fail
          refine (containsFuncR_c a cap ll _ (badRows s) _ (HR.out.ext (by (repeat (first | exact Ext.refl _ | assumption | refine Ext.alloc ?_ _ | refine Ext.drewN ?_ _ | refine Ext.drew ?_)))) (by omega) ?_).mono ?_
          · intro ai ci r w1 hmem hx hi
            refine (mvClosure_c w.heap.size s ai ci r w1 ?_ hi ?_)
            · obtain ⟨j, hj, rfl⟩ := List.getElem_of_mem hmem
              have := HM.out j hj
              rw [rowI_getElem ll j hj] at this
              omega
            · exact hx.cell' (by simp [go_sem]) (by simp)
          · rintro e w1 ⟨rfl, hx⟩
            have hx2 := Ext.trans (by (repeat (first | exact Ext.refl _ | assumption | refine Ext.alloc ?_ _ | refine Ext.drewN ?_ _ | refine Ext.drew ?_)) : Ext w _) hx
            go_wp2
            go_ret
            exact ⟨by rw [HV.out, hp, hq, H3.out]; simp, hx2⟩
        · have hne : (((ll.length : Nat) : Int) != 3) = true := by simp; omega
          go_enter Tryz.func79, Tryz.ntmps79
          go_wp2_with fail
          refine (hasStates_c _ _).mono ?_
          rintro e w1 ⟨rfl, rfl⟩
          go_wp2_with fail
          refine (isSet_c _ _ _ hs5).mono ?_
          rintro e w1 ⟨rfl, rfl⟩
          go_wp2_with fail
          refine (isSet_c _ _ _ hs5).mono ?_
          rintro e w1 ⟨rfl, rfl⟩
          go_wp2
          go_ret
          exact ⟨by rw [HV.out, hp, hq]; simp [h3], by (repeat (first | exact Ext.refl _ | assumption | refine Ext.alloc ?_ _ | refine Ext.drewN ?_ _ | refine Ext.drew ?_))⟩
  · have hd : decide (1 ≤ st ∧ st ≤ 5) = false := by simpa using h1
    have HV := Lib.hid (mvB_out st p q ll h1)
    clear h1
    go_enter Tryz.func79, Tryz.ntmps79
    go_wp2_with fail
    refine (hasStates_c _ _).mono ?_
    rintro e w1 ⟨rfl, rfl⟩
    go_wp2
    go_ret
    exact ⟨by rw [HV.out]; rfl, by (repeat (first | exact Ext.refl _ | assumption | refine Ext.alloc ?_ _ | refine Ext.drewN ?_ _ | refine Ext.drew ?_))⟩
end Go.Proofs.YtlaamecfknkmlaaGreat
