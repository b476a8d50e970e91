/- Merged texts: contracts and plain lemmas (Sa). -/
import Derived.Test.YtlaamecfknkmlaaDoorMg27
/- Contracts: the program's reader of expressions: products and sums, and the whole reader by its depth. -/
namespace Go.Kt
/-- One, and more of them with a sign between. -/
def rMore (sub : Rdr) (sign : UInt8) (op : Int) : Rdr := fun x => match sub x with
  | none => none
  | some (l, r) => more sub sign op (r.length + 1) l r
theorem rMore_none {sub : Rdr} {sign : UInt8} {op : Int} {x : List UInt8} (h : sub x = none) : rMore sub sign op x = none := by unfold rMore; rw [h]
theorem rMore_some {sub : Rdr} {sign : UInt8} {op : Int} {x r : List UInt8} {l : List Int} (h : sub x = some (l, r)) : rMore sub sign op x = more sub sign op (r.length + 1) l r := by unfold rMore; rw [h]
theorem more_bad {sub : Rdr} (sign : UInt8) (op : Int) (f : Nat) (l : List Int) {x : List UInt8} (h : sub x = none) : more sub sign op (f + 1) l (sign :: x) = none := by simp [more, h]
end Go.Kt
namespace Go.Proofs.YtlaamecfknkmlaaDoor
set_option linter.unusedVariables false
open Go.RowKit Go.Kt

set_option maxRecDepth 100000 in
set_option maxHeartbeats 800000 in
theorem prod_c (W0 : World) (g : Nat) (s : ByteArray) (sub : Rdr) (D : Nat) (hg0 : W0.heap.size ≤ g) (hs : s.size ≤ 199) (hf : FitsR sub) (hle : Less sub) (H : SubC W0 g s 72 sub D) :
    SubC W0 g s 59 (rMore sub 59 19) D := by
  intro p w hx hk hp hd
  have HC : Hid (Calls Tryd.prog 72 #[.pointer (some ⟨g, 0, none⟩)] w (RetR w g s (sub ((bs s).drop p)))) := H p w hx hk hp hd
  have HX := Lib.hid hx
  have HH : Hid (SubC W0 g s 72 sub D) := H
  have zg := hk.lt
  obtain ⟨o, hO⟩ : ∃ o, Hid (o = rMore sub 59 19 ((bs s).drop p)) := ⟨_, rfl⟩
  rw [← hO.out]
  clear H hx hk
  cases hr : sub ((bs s).drop p) with
  | none =>
    rw [hr] at HC
    have HV : Hid (o = none) := hO.out.trans (rMore_none hr)
    clear hO hr
    go_enter Tryd.func59, Tryd.ntmps59
    go_wp2_with fail
    refine HC.out.mono ?_
    rintro e w1 ⟨ht1, rfl⟩
    have HT := Lib.hid ht1
    clear ht1
    go_wp2
    exact ⟨rfl, by rw [HV.out]; exact RetR.no HT.out⟩
  | some x =>
    obtain ⟨l, r⟩ := x
    rw [hr] at HC
    have HV : Hid (o = more sub 59 19 (r.length + 1) l r) := hO.out.trans (rMore_some hr)
    have HB : Hid (l.length + r.length ≤ 199) := Nat.le_trans (hf _ _ _ hr) (by rw [List.length_drop, bs_len]; omega)
    have hrl : r.length ≤ s.size - p := by have := hle _ _ _ hr; rw [List.length_drop, bs_len] at this; exact this
    clear hO hr
    go_enter Tryd.func59, Tryd.ntmps59
    go_wp2_with fail
    refine HC.out.mono ?_
    rintro e w1 ⟨ht1, v, q, rfl, ho, hq, hqs, hk1⟩
    have HS : Hid (LoopSt w w1 g s q v l) := ⟨zg, ho, hqs, hk1, ht1⟩
    have hqd : s.size - q < D := by rw [← hq, List.length_drop, bs_len] at hrl; omega
    clear ht1 ho hk1 hrl
    go_wp2
    go_loopw [3] (fun v wr => Hid (∃ f l q, o = more sub 59 19 f l ((bs s).drop q) ∧ ((bs s).drop q).length < f ∧ l.length + ((bs s).drop q).length ≤ 199 ∧ s.size - q < D ∧ LoopSt w wr g s q v l)) (fun _ wr => s.size - posOf wr g)
    case atStart => exact Lib.hid ⟨r.length + 1, l, q, by rw [HV.out, hq], by rw [hq]; omega, by rw [hq]; exact HB.out, hqd, HS.out⟩
    case round =>
      obtain ⟨f, l, q, ho, hfu, hb, hqd, hs2⟩ := hrel.out
      obtain ⟨f, rfl⟩ : ∃ k, f = k + 1 := ⟨f - 1, by omega⟩
      clear hrel HS HV HB
      obtain ⟨av, cv, rfl, -⟩ := hs2.own.shape
      have HL := Lib.hid hs2
      have HO := Lib.hid ho
      have hqs2 := hs2.hq
      have CT := take_c g q s 59 59 rfl wr hs2.kr hs hs2.hq
      have zgr := hs2.kr.lt
      clear hs2 ho
      cases hh : hitB s q 59
      · rw [hh] at CT
        have CT2 : Hid (Calls Tryd.prog 60 #[.pointer (some ⟨g, 0, none⟩), .int .u8 59] wr (RetB wr g s q false)) := CT
        have HV : Hid (o = some (l, (bs s).drop q)) := HO.out.trans (more_end _ _ _ _ _ (by unfold hitB at hh; intro e; rw [e] at hh; simp at hh))
        clear CT hh
        go_wp2_with fail
        refine CT2.out.mono ?_
        rintro e w2 ⟨rfl, hk2, ht2⟩
        have HL2 := Lib.hid (HL.out.drawn ht2 hk2 hqs2)
        clear hk2 ht2
        go_wp2
        go_ret
        rw [HV.out]
        exact RetR.yes HL2.out.tch HL2.out.own rfl hqs2 HL2.out.kr
      · rw [hh] at CT
        have CT2 : Hid (Calls Tryd.prog 60 #[.pointer (some ⟨g, 0, none⟩), .int .u8 59] wr (RetB wr g s (q + 1) true)) := CT
        have hlt : q < s.size := by
          by_cases h : q < s.size
          · exact h
          · rw [hit_out h] at hh; cases hh
        have hc : s[q] = 59 := by rw [hit_in hlt] at hh; simpa using hh
        have hdq : (bs s).drop q = 59 :: (bs s).drop (q + 1) := by rw [drop_at hlt, hc]
        have HV : Hid (o = more sub 59 19 (f + 1) l (59 :: (bs s).drop (q + 1))) := HO.out.trans (by rw [hdq])
        have hd1 : ((bs s).drop (q + 1)).length + 1 = ((bs s).drop q).length := by rw [hdq]; rfl
        have hpo := HL.out.kr.posOf
        clear CT hh hc HO hdq
        go_wp2_with fail
        refine CT2.out.mono ?_
        rintro e w2 ⟨rfl, hk2, ht2⟩
        have HL2 := Lib.hid (HL.out.drawn ht2 hk2 hlt)
        have hz2 := HL2.out.tch.size
        have HX2 := Lib.hid (HL2.out.tch.ext HX.out hg0)
        have HS2 : Hid (Calls Tryd.prog 72 #[.pointer (some ⟨g, 0, none⟩)] w2 (RetR w2 g s (sub ((bs s).drop (q + 1))))) := HH.out (q + 1) w2 HX2.out hk2 hlt (by omega)
        clear hk2 ht2 HL
        cases hr : sub ((bs s).drop (q + 1)) with
        | none =>
          rw [hr] at HS2
          have HV2 : Hid (o = none) := HV.out.trans (more_bad _ _ _ _ hr)
          clear HV hr
          go_wp2_with fail
          refine HS2.out.mono ?_
          rintro e w3 ⟨ht3, rfl⟩
          have HT3 := Lib.hid (HL2.out.tch.trans ht3)
          clear ht3
          go_wp2
          exact ⟨rfl, by rw [HV2.out]; exact RetR.no HT3.out⟩
        | some y =>
          obtain ⟨m, r2⟩ := y
          rw [hr] at HS2
          have HV2 : Hid (o = more sub 59 19 f (l ++ m ++ [19]) r2) := HV.out.trans (more_sign _ _ _ _ hr)
          have hml : m.length + r2.length ≤ ((bs s).drop (q + 1)).length := hf _ _ _ hr
          clear HV hr
          go_wp2_with fail
          refine HS2.out.mono ?_
          rintro e w3 ⟨ht3, v3, q3, rfl, ho3, hq3, hqs3, hk3⟩
          have HL3 := Lib.hid (HL2.out.drawn ht3 hk3 hqs3)
          obtain ⟨a3, c3, rfl, hi3⟩ := ho3.shape
          have HI3 := Lib.hid hi3
          have hz3 := HL3.out.tch.size
          rw [← hq3] at hml
          have hln : ((bs s).drop q3).length = s.size - q3 := by rw [List.length_drop, bs_len]
          have hln1 : ((bs s).drop (q + 1)).length = s.size - (q + 1) := by rw [List.length_drop, bs_len]
          have HB3 : Hid (o = more sub 59 19 f (l ++ m ++ [19]) ((bs s).drop q3)) := by rw [hq3]; exact HV2
          have hlm : l.length + m.length + 1 + ((bs s).drop q3).length ≤ 199 := by omega
          have hfu3 : ((bs s).drop q3).length < f := by omega
          have hqd3 : s.size - q3 < D := by omega
          have hqq : s.size - q3 < s.size - q := by omega
          clear ht3 hk3 ho3 hi3 HL2 HV2 hml hq3
          go_wp2_with (at_builtin; refine any_append_ints (by rfl) _ _ _ rfl (w.heap.size) 3 Tryd.underlying29 infoInt _ (l) rfl (HL3.out.own.ext (by (repeat (first | exact Ext.refl _ | assumption | refine Ext.alloc ?_ _ | refine Ext.drewN ?_ _ | refine Ext.drew ?_)))) _ _ (m) rfl (HI3.out.ext (by (repeat (first | exact Ext.refl _ | assumption | refine Ext.alloc ?_ _ | refine Ext.drewN ?_ _ | refine Ext.drew ?_)))) (by first | omega | (simp; omega)) (by first | omega | (simp; done) | (simp; omega)) ?_)
          intro v6 w6 o6 g6
          have HS6 := Lib.hid (HL3.out.more (by (repeat (first | exact Ext.refl _ | assumption | refine Ext.alloc ?_ _ | refine Ext.drewN ?_ _ | refine Ext.drew ?_))) (HL3.out.own.ext (by (repeat (first | exact Ext.refl _ | assumption | refine Ext.alloc ?_ _ | refine Ext.drewN ?_ _ | refine Ext.drew ?_)))) o6 g6)
          have hz6 := HS6.out.tch.size
          have hl6 : (l ++ m).length = l.length + m.length := List.length_append
          clear HL3 o6 g6 HI3
          go_wp2_with (at_builtin; refine any_append_ints (by rfl) _ _ _ rfl (w.heap.size) 3 Tryd.underlying29 infoInt _ (_) rfl (HS6.out.own.ext (by (repeat (first | exact Ext.refl _ | assumption | refine Ext.alloc ?_ _ | refine Ext.drewN ?_ _ | refine Ext.drew ?_)))) _ _ ([19]) rfl (by first | exact (OwnI.lit1 _ _ _ _ (Nat.le_refl _)).ints | exact ((OwnI.lit1 _ _ _ _ (Nat.le_refl _)).ints).ext (by (repeat (first | exact Ext.refl _ | assumption | refine Ext.alloc ?_ _ | refine Ext.drewN ?_ _ | refine Ext.drew ?_)))) (by first | omega | (simp; omega)) (by first | omega | (simp; done) | (simp; omega)) ?_)
          intro v7 w7 o7 g7
          have HS7 := Lib.hid (HS6.out.more (by (repeat (first | exact Ext.refl _ | assumption | refine Ext.alloc ?_ _ | refine Ext.drewN ?_ _ | refine Ext.drew ?_))) (HS6.out.own.ext (by (repeat (first | exact Ext.refl _ | assumption | refine Ext.alloc ?_ _ | refine Ext.drewN ?_ _ | refine Ext.drew ?_)))) o7 g7)
          have hp7 := HS7.out.kr.posOf
          clear HS6 o7 g7
          go_wp2
          go_roundw
          case rel => exact Lib.hid ⟨f, l ++ m ++ [19], q3, HB3.out, hfu3, by rw [List.length_append, hl6]; simp only [List.length_cons, List.length_nil]; omega, hqd3, by rw [List.append_assoc]; exact HS7.out⟩
          case measure => rw [hpo, hp7]; exact hqq
set_option maxRecDepth 100000 in
set_option maxHeartbeats 800000 in
theorem sum0_c (W0 : World) (g : Nat) (s : ByteArray) (sub : Rdr) (D : Nat) (hg0 : W0.heap.size ≤ g) (hs : s.size ≤ 199) (hf : FitsR sub) (hle : Less sub) (H : SubC W0 g s 59 sub D) :
    SubC W0 g s 30 (rMore sub 43 20) D := by
  intro p w hx hk hp hd
  have HC : Hid (Calls Tryd.prog 59 #[.pointer (some ⟨g, 0, none⟩)] w (RetR w g s (sub ((bs s).drop p)))) := H p w hx hk hp hd
  have HX := Lib.hid hx
  have HH : Hid (SubC W0 g s 59 sub D) := H
  have zg := hk.lt
  obtain ⟨o, hO⟩ : ∃ o, Hid (o = rMore sub 43 20 ((bs s).drop p)) := ⟨_, rfl⟩
  rw [← hO.out]
  clear H hx hk
  cases hr : sub ((bs s).drop p) with
  | none =>
    rw [hr] at HC
    have HV : Hid (o = none) := hO.out.trans (rMore_none hr)
    clear hO hr
    go_enter Tryd.func30, Tryd.ntmps30
    go_wp2_with fail
    refine HC.out.mono ?_
    rintro e w1 ⟨ht1, rfl⟩
    have HT := Lib.hid ht1
    clear ht1
    go_wp2
    exact ⟨rfl, by rw [HV.out]; exact RetR.no HT.out⟩
  | some x =>
    obtain ⟨l, r⟩ := x
    rw [hr] at HC
    have HV : Hid (o = more sub 43 20 (r.length + 1) l r) := hO.out.trans (rMore_some hr)
    have HB : Hid (l.length + r.length ≤ 199) := Nat.le_trans (hf _ _ _ hr) (by rw [List.length_drop, bs_len]; omega)
    have hrl : r.length ≤ s.size - p := by have := hle _ _ _ hr; rw [List.length_drop, bs_len] at this; exact this
    clear hO hr
    go_enter Tryd.func30, Tryd.ntmps30
    go_wp2_with fail
    refine HC.out.mono ?_
    rintro e w1 ⟨ht1, v, q, rfl, ho, hq, hqs, hk1⟩
    have HS : Hid (LoopSt w w1 g s q v l) := ⟨zg, ho, hqs, hk1, ht1⟩
    have hqd : s.size - q < D := by rw [← hq, List.length_drop, bs_len] at hrl; omega
    clear ht1 ho hk1 hrl
    go_wp2
    go_loopw [3] (fun v wr => Hid (∃ f l q, o = more sub 43 20 f l ((bs s).drop q) ∧ ((bs s).drop q).length < f ∧ l.length + ((bs s).drop q).length ≤ 199 ∧ s.size - q < D ∧ LoopSt w wr g s q v l)) (fun _ wr => s.size - posOf wr g)
    case atStart => exact Lib.hid ⟨r.length + 1, l, q, by rw [HV.out, hq], by rw [hq]; omega, by rw [hq]; exact HB.out, hqd, HS.out⟩
    case round =>
      obtain ⟨f, l, q, ho, hfu, hb, hqd, hs2⟩ := hrel.out
      obtain ⟨f, rfl⟩ : ∃ k, f = k + 1 := ⟨f - 1, by omega⟩
      clear hrel HS HV HB
      obtain ⟨av, cv, rfl, -⟩ := hs2.own.shape
      have HL := Lib.hid hs2
      have HO := Lib.hid ho
      have hqs2 := hs2.hq
      have CT := take_c g q s 43 43 rfl wr hs2.kr hs hs2.hq
      have zgr := hs2.kr.lt
      clear hs2 ho
      cases hh : hitB s q 43
      · rw [hh] at CT
        have CT2 : Hid (Calls Tryd.prog 60 #[.pointer (some ⟨g, 0, none⟩), .int .u8 43] wr (RetB wr g s q false)) := CT
        have HV : Hid (o = some (l, (bs s).drop q)) := HO.out.trans (more_end _ _ _ _ _ (by unfold hitB at hh; intro e; rw [e] at hh; simp at hh))
        clear CT hh
        go_wp2_with fail
        refine CT2.out.mono ?_
        rintro e w2 ⟨rfl, hk2, ht2⟩
        have HL2 := Lib.hid (HL.out.drawn ht2 hk2 hqs2)
        clear hk2 ht2
        go_wp2
        go_ret
        rw [HV.out]
        exact RetR.yes HL2.out.tch HL2.out.own rfl hqs2 HL2.out.kr
      · rw [hh] at CT
        have CT2 : Hid (Calls Tryd.prog 60 #[.pointer (some ⟨g, 0, none⟩), .int .u8 43] wr (RetB wr g s (q + 1) true)) := CT
        have hlt : q < s.size := by
          by_cases h : q < s.size
          · exact h
          · rw [hit_out h] at hh; cases hh
        have hc : s[q] = 43 := by rw [hit_in hlt] at hh; simpa using hh
        have hdq : (bs s).drop q = 43 :: (bs s).drop (q + 1) := by rw [drop_at hlt, hc]
        have HV : Hid (o = more sub 43 20 (f + 1) l (43 :: (bs s).drop (q + 1))) := HO.out.trans (by rw [hdq])
        have hd1 : ((bs s).drop (q + 1)).length + 1 = ((bs s).drop q).length := by rw [hdq]; rfl
        have hpo := HL.out.kr.posOf
        clear CT hh hc HO hdq
        go_wp2_with fail
        refine CT2.out.mono ?_
        rintro e w2 ⟨rfl, hk2, ht2⟩
        have HL2 := Lib.hid (HL.out.drawn ht2 hk2 hlt)
        have hz2 := HL2.out.tch.size
        have HX2 := Lib.hid (HL2.out.tch.ext HX.out hg0)
        have HS2 : Hid (Calls Tryd.prog 59 #[.pointer (some ⟨g, 0, none⟩)] w2 (RetR w2 g s (sub ((bs s).drop (q + 1))))) := HH.out (q + 1) w2 HX2.out hk2 hlt (by omega)
        clear hk2 ht2 HL
        cases hr : sub ((bs s).drop (q + 1)) with
        | none =>
          rw [hr] at HS2
          have HV2 : Hid (o = none) := HV.out.trans (more_bad _ _ _ _ hr)
          clear HV hr
          go_wp2_with fail
          refine HS2.out.mono ?_
          rintro e w3 ⟨ht3, rfl⟩
          have HT3 := Lib.hid (HL2.out.tch.trans ht3)
          clear ht3
          go_wp2
          exact ⟨rfl, by rw [HV2.out]; exact RetR.no HT3.out⟩
        | some y =>
          obtain ⟨m, r2⟩ := y
          rw [hr] at HS2
          have HV2 : Hid (o = more sub 43 20 f (l ++ m ++ [20]) r2) := HV.out.trans (more_sign _ _ _ _ hr)
          have hml : m.length + r2.length ≤ ((bs s).drop (q + 1)).length := hf _ _ _ hr
          clear HV hr
          go_wp2_with fail
          refine HS2.out.mono ?_
          rintro e w3 ⟨ht3, v3, q3, rfl, ho3, hq3, hqs3, hk3⟩
          have HL3 := Lib.hid (HL2.out.drawn ht3 hk3 hqs3)
          obtain ⟨a3, c3, rfl, hi3⟩ := ho3.shape
          have HI3 := Lib.hid hi3
          have hz3 := HL3.out.tch.size
          rw [← hq3] at hml
          have hln : ((bs s).drop q3).length = s.size - q3 := by rw [List.length_drop, bs_len]
          have hln1 : ((bs s).drop (q + 1)).length = s.size - (q + 1) := by rw [List.length_drop, bs_len]
          have HB3 : Hid (o = more sub 43 20 f (l ++ m ++ [20]) ((bs s).drop q3)) := by rw [hq3]; exact HV2
          have hlm : l.length + m.length + 1 + ((bs s).drop q3).length ≤ 199 := by omega
          have hfu3 : ((bs s).drop q3).length < f := by omega
          have hqd3 : s.size - q3 < D := by omega
          have hqq : s.size - q3 < s.size - q := by omega
          clear ht3 hk3 ho3 hi3 HL2 HV2 hml hq3
          go_wp2_with (at_builtin; refine any_append_ints (by rfl) _ _ _ rfl (w.heap.size) 3 Tryd.underlying29 infoInt _ (l) rfl (HL3.out.own.ext (by (repeat (first | exact Ext.refl _ | assumption | refine Ext.alloc ?_ _ | refine Ext.drewN ?_ _ | refine Ext.drew ?_)))) _ _ (m) rfl (HI3.out.ext (by (repeat (first | exact Ext.refl _ | assumption | refine Ext.alloc ?_ _ | refine Ext.drewN ?_ _ | refine Ext.drew ?_)))) (by first | omega | (simp; omega)) (by first | omega | (simp; done) | (simp; omega)) ?_)
          intro v6 w6 o6 g6
          have HS6 := Lib.hid (HL3.out.more (by (repeat (first | exact Ext.refl _ | assumption | refine Ext.alloc ?_ _ | refine Ext.drewN ?_ _ | refine Ext.drew ?_))) (HL3.out.own.ext (by (repeat (first | exact Ext.refl _ | assumption | refine Ext.alloc ?_ _ | refine Ext.drewN ?_ _ | refine Ext.drew ?_)))) o6 g6)
          have hz6 := HS6.out.tch.size
          have hl6 : (l ++ m).length = l.length + m.length := List.length_append
          clear HL3 o6 g6 HI3
          go_wp2_with (at_builtin; refine any_append_ints (by rfl) _ _ _ rfl (w.heap.size) 3 Tryd.underlying29 infoInt _ (_) rfl (HS6.out.own.ext (by (repeat (first | exact Ext.refl _ | assumption | refine Ext.alloc ?_ _ | refine Ext.drewN ?_ _ | refine Ext.drew ?_)))) _ _ ([20]) rfl (by first | exact (OwnI.lit1 _ _ _ _ (Nat.le_refl _)).ints | exact ((OwnI.lit1 _ _ _ _ (Nat.le_refl _)).ints).ext (by (repeat (first | exact Ext.refl _ | assumption | refine Ext.alloc ?_ _ | refine Ext.drewN ?_ _ | refine Ext.drew ?_)))) (by first | omega | (simp; omega)) (by first | omega | (simp; done) | (simp; omega)) ?_)
          intro v7 w7 o7 g7
          have HS7 := Lib.hid (HS6.out.more (by (repeat (first | exact Ext.refl _ | assumption | refine Ext.alloc ?_ _ | refine Ext.drewN ?_ _ | refine Ext.drew ?_))) (HS6.out.own.ext (by (repeat (first | exact Ext.refl _ | assumption | refine Ext.alloc ?_ _ | refine Ext.drewN ?_ _ | refine Ext.drew ?_)))) o7 g7)
          have hp7 := HS7.out.kr.posOf
          clear HS6 o7 g7
          go_wp2
          go_roundw
          case rel => exact Lib.hid ⟨f, l ++ m ++ [20], q3, HB3.out, hfu3, by rw [List.length_append, hl6]; simp only [List.length_cons, List.length_nil]; omega, hqd3, by rw [List.append_assoc]; exact HS7.out⟩
          case measure => rw [hpo, hp7]; exact hqq
end Go.Proofs.YtlaamecfknkmlaaDoor
