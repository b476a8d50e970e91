/- Merged texts: contracts and plain lemmas (Ry). -/
import Derived.Test.YtlaamecfknkmlaaDoorMg21
import Derived.WalkSmall
/- Contracts: the program's reader of expressions: a single one. -/
namespace Go.Proofs.YtlaamecfknkmlaaDoor
set_option linter.unusedVariables false
open Go.RowKit Go.Kt

/-- What a reader's step comes to: it panics, or reads. -/
def RetR (w : World) (g : Nat) (s : ByteArray) (o : Option (List Int × List UInt8)) (e : Ending) (w' : World) : Prop :=
  Touched w w' g (g + 1) ∧ match o with
  | none => e = .panicked [{ v := .iface 54 (.agg #[]), recovered := false }]
  | some (l, r) => ∃ v q, e = .returned v ∧ OwnI w' w.heap.size 3 v l ∧ (bs s).drop q = r ∧ q ≤ s.size ∧ Kr w' g s q
theorem RetR.no {w w' : World} {g : Nat} {s : ByteArray} (t : Touched w w' g (g + 1)) : RetR w g s none (.panicked [{ v := .iface 54 (.agg #[]), recovered := false }]) w' := ⟨t, rfl⟩
theorem RetR.yes {w w' : World} {g q : Nat} {s : ByteArray} {l : List Int} {r : List UInt8} {v : Value} (t : Touched w w' g (g + 1)) (o : OwnI w' w.heap.size 3 v l) (hr : (bs s).drop q = r) (hq : q ≤ s.size) (k : Kr w' g s q) : RetR w g s (some (l, r)) (.returned v) w' := ⟨t, v, q, rfl, o, hr, hq, k⟩
/-- What stands in brackets. -/
def shutR : Option (List Int × List UInt8) → Option (List Int × List UInt8)
  | some (l, e :: r') => if e = 41 then some (l, r') else none
  | _ => none
theorem shut_no {l : List Int} {r : List UInt8} (h : r.head? ≠ some 41) : shutR (some (l, r)) = none := by
  cases r with
  | nil => rfl
  | cons c r => exact if_neg (fun e => h (by rw [e]; rfl))
theorem shut_yes (l : List Int) (r : List UInt8) : shutR (some (l, 41 :: r)) = some (l, r) := by simp [shutR]
def SubC (W0 : World) (g : Nat) (s : ByteArray) (f : FuncId) (sub : Rdr) (D : Nat) : Prop :=
  ∀ p w, Ext W0 w → Kr w g s p → p ≤ s.size → s.size - p < D → Calls Tryd.prog f #[.pointer (some ⟨g, 0, none⟩)] w (RetR w g s (sub ((bs s).drop p)))
theorem bs_rest (s : ByteArray) (p : Nat) : bs (s.extract p s.size) = (bs s).drop p := by
  have h := Lib.extract_toList s p s.size
  rw [Lib.toList_data] at h
  unfold bs
  rw [h, List.take_of_length_le]
  rw [List.length_drop]
  exact Nat.le_refl _
theorem own_lit_set (w1 : World) (n g B E : Nat) (u : Value) (x : Int) (h : B ≤ w1.heap.size) :
    OwnI (((w1.drewN n).setCell ⟨g, 1, none⟩ u).alloc (.cells #[.int .i64 x] E)) B E (.slice (some ⟨w1.heap.size, 0, none⟩) 1 1) [x] := by
  have e : ((w1.drewN n).setCell ⟨g, 1, none⟩ u).heap.size = w1.heap.size := by simp
  have := OwnI.lit1 ((w1.drewN n).setCell ⟨g, 1, none⟩ u) B E x (by rw [e]; exact h)
  rw [e] at this
  exact this
theorem bs_ext0 (R : ByteArray) (n : Nat) : bs (R.extract 0 n) = (bs R).take n := by
  have h1 := Lib.extract_toList R 0 n
  rw [Lib.toList_data] at h1
  exact h1
theorem rWord_len {w : List UInt8} (h : w.length ≠ 1) : rWord w = (rTest w).map Int.ofNat := by
  unfold rWord
  split
  · exact absurd rfl h
  · rfl
theorem rTest_nil : rTest [] = none := by decide +kernel
theorem extract_one {R : ByteArray} {c : UInt8} {r : List UInt8} (h : bs R = c :: r) : R.extract 0 1 = ⟨#[c]⟩ := by
  have h1 := Lib.extract_toList R 0 1
  rw [Lib.toList_data] at h1
  apply ByteArray.ext
  apply Array.toList_inj.1
  rw [h1]
  show ((bs R).drop 0).take 1 = [c]
  rw [h]; rfl
set_option maxRecDepth 100000 in
set_option maxHeartbeats 400000 in
theorem single_c (W0 : World) (g : Nat) (s : ByteArray) (d : Nat) (hN : NamesW W0) (hg0 : W0.heap.size ≤ g) (hs : s.size ≤ 199) (H : SubC W0 g s 30 (rSum d) d) :
    SubC W0 g s 76 (rSingle (rSum d)) (d + 1) := by
  intro p w hx hk hp hd
  have HS := Lib.hid H
  have HK := Lib.hid hk
  have HX := Lib.hid hx
  have zg := hk.lt
  clear H hk hx
  cases hh : hitB s p 40
  · have CT : Hid (Calls Tryd.prog 60 #[.pointer (some ⟨g, 0, none⟩), .int .u8 40] w (RetB w g s p false)) := by
      have := take_c g p s 40 40 rfl w HK.out hs hp
      rw [hh] at this; exact this
    have hpr : ∀ c, Lib.hasPrefix (s.extract p s.size).data.toList [c] = (((bs s).drop p).head? == some c) := fun c => by rw [prefix1]; show ((bs (s.extract p s.size)).head? == some c) = _; rw [bs_rest]
    by_cases hlt : p < s.size
    · have hdr := drop_at hlt
      have hc40 : s[p] ≠ 40 := by rw [hit_in hlt] at hh; simpa using hh
      generalize hcv : s[p] = c at *
      by_cases h33 : c = 33
      · subst h33
        have P1 : Hid (∀ w', Calls Tryd.prog 79 #[.string (s.extract p s.size), .string ⟨#[33]⟩] w' fun e w'' => e = .returned (.bool true) ∧ w' = w'') := fun w' => by
          have := hasPrefix_c (s.extract p s.size) ⟨#[33]⟩ w'
          rw [hpr, hdr, show (((33 : UInt8) :: (bs s).drop (p + 1)).head? == some 33) = true by simp] at this; exact this
        have HR := Lib.hid (bs_rest s p)
        have hpi : (p : Int) ≤ (s.size : Int) := by omega
        obtain ⟨o, hO⟩ : ∃ o, Hid (o = rSingle (rSum d) ((bs s).drop p)) := ⟨_, rfl⟩
        rw [← hO.out]
        have HLr : Hid (((bs s).drop p).length = s.size - p) := by unfold Hid; rw [List.length_drop, bs_len]
        by_cases h2 : p + 2 ≤ s.size
        · have hNs : p + 2 ≤ s.size := h2
          have HV : Hid (o = ((rTest (((bs s).drop p).take 2)).map Int.ofNat).map fun x => ([x], (bs s).drop (p + 2))) := by
            unfold Hid
            rw [hO.out, hdr]
            have hw : wordN (33 :: (bs s).drop (p + 1)) = 2 := by
              simp only [wordN, if_true]
              rw [List.length_drop, bs_len]; omega
            simp only [rSingle]
            rw [if_neg hc40, hw, ← hdr, List.drop_drop, rWord_len (by rw [List.length_take, HLr.out]; omega)]
          have HRT : Hid (∀ w' R, bs R = (bs s).drop p → NamesW w' → Calls Tryd.prog 81 #[.string (R.extract 0 2)] w' (RetT2 w' (rTest (((bs s).drop p).take 2)))) := fun w' R hR h => by
            have := readTest_c (R.extract 0 2) w' h
            rw [bs_ext0, hR] at this
            exact this
          clear hO
          go_enter Tryd.func76, Tryd.ntmps76
          go_wp2_with fail
          refine CT.out.mono ?_
          rintro e w1 ⟨rfl, hk1, ht1⟩
          have c0 := hk1.src
          have c1 := hk1.pos
          have HT := Lib.hid ht1
          have HK1 := Lib.hid hk1
          have f1 := hk1.thaw.2 1
          have HX1 := Lib.hid (ht1.ext HX.out hg0)
          have hT2 : Touched w1 (w1.setCell ⟨g, 1, none⟩ (.int .i64 ((p + 2 : Nat) : Int))) g (g + 1) := Touched.setCell _ _ _
          have hK2 := hk1.set (p + 2)
          rw [show (((p + 2 : Nat)) : Int) = (p : Int) + 2 by omega] at hT2 hK2
          have HT2 := Lib.hid hT2
          have HK2 := Lib.hid hK2
          clear hk1 ht1 hT2 hK2
          go_wp2
          go_quiet (fail)
          generalize s.extract p s.size = R at *
          have hsz : R.size = s.size - p := by have : R.size = (bs R).length := rfl; rw [this, HR.out, HLr.out]
          have hmin : min (2 : Int) ((s.size - p : Nat) : Int) = 2 := by omega
          have hwz : (R.extract 0 2).size = 2 := by rw [ByteArray.size_extract]; omega
          go_wp2_with (first
            | (go_at_call 79; with_reducible refine (P1.out _).mono ?_; rintro e w2 ⟨rfl, rfl⟩))
          rw [set_drewN]
          have hx3 : Ext W0 ((w1.setCell ⟨g, 1, none⟩ (.int .i64 ((p : Int) + 2))).drewN nq) := (HT2.out.ext HX1.out hg0).drewN _
          refine (HRT.out _ R HR.out (hN.ext hx3)).mono ?_
          rintro e w4 ⟨rfl, hx4⟩
          have HX4 := Lib.hid hx4
          have hz4 := hx4.size
          clear hx3 hx4 HRT
          cases ho : rTest (((bs s).drop p).take 2) with
          | none =>
            rw [ho] at HV
            have HV2 : Hid (o = none) := HV.out
            clear HV ho
            go_wp2
            exact ⟨rfl, by rw [HV2.out]; exact RetR.no (HT.out.trans (HT2.out.trans (Touched.of_ext (((Ext.refl _).drewN _).trans HX4.out))))⟩
          | some t =>
            rw [ho] at HV
            have HV2 : Hid (o = some ([(t : Int)], (bs s).drop (p + 2))) := HV.out
            clear HV ho
            go_wp2
            go_ret
            rw [HV2.out]
            have hx5 : Ext (w1.setCell ⟨g, 1, none⟩ (.int .i64 ((p : Int) + 2))) w4 := ((Ext.refl _).drewN _).trans HX4.out
            exact RetR.yes (HT.out.trans (HT2.out.trans (Touched.of_ext (hx5.trans (by (repeat (first | exact Ext.refl _ | assumption | refine Ext.alloc ?_ _ | refine Ext.drewN ?_ _ | refine Ext.drew ?_))))))) (OwnI.lit1 _ _ _ _ (Nat.le_trans (HT.out.trans HT2.out).size hx5.size)) rfl hNs (HK2.out.ext (hx5.trans (by (repeat (first | exact Ext.refl _ | assumption | refine Ext.alloc ?_ _ | refine Ext.drewN ?_ _ | refine Ext.drew ?_)))))
        · have hNs : p + 1 ≤ s.size := hlt
          have hsp : s.size - p = 1 := by omega
          have hd1 : (bs s).drop (p + 1) = [] := List.drop_eq_nil_of_le (by rw [bs_len]; omega)
          have HV : Hid (o = ((rTest (((bs s).drop p).take 1)).map Int.ofNat).map fun x => ([x], (bs s).drop (p + 1))) := by
            unfold Hid
            rw [hO.out, hdr]
            have hw : wordN (33 :: (bs s).drop (p + 1)) = 1 := by
              rw [hd1]; rfl
            simp only [rSingle]
            rw [if_neg hc40, hw, ← hdr, List.drop_drop, hdr, List.take_succ_cons, List.take_zero]
            rfl
          have HRT : Hid (∀ w', NamesW w' → Calls Tryd.prog 81 #[.string ⟨#[33]⟩] w' (RetT2 w' (rTest (((bs s).drop p).take 1)))) := fun w' h => by
            have := readTest_c ⟨#[33]⟩ w' h
            rw [hdr, List.take_succ_cons, List.take_zero]
            exact this
          clear hO
          go_enter Tryd.func76, Tryd.ntmps76
          go_wp2_with fail
          refine CT.out.mono ?_
          rintro e w1 ⟨rfl, hk1, ht1⟩
          have c0 := hk1.src
          have c1 := hk1.pos
          have HT := Lib.hid ht1
          have HK1 := Lib.hid hk1
          have f1 := hk1.thaw.2 1
          have HX1 := Lib.hid (ht1.ext HX.out hg0)
          have hT2 : Touched w1 (w1.setCell ⟨g, 1, none⟩ (.int .i64 ((p + 1 : Nat) : Int))) g (g + 1) := Touched.setCell _ _ _
          have hK2 := hk1.set (p + 1)
          rw [show (((p + 1 : Nat)) : Int) = (p : Int) + 1 by omega] at hT2 hK2
          have HT2 := Lib.hid hT2
          have HK2 := Lib.hid hK2
          clear hk1 ht1 hT2 hK2
          go_wp2
          go_quiet (fail)
          generalize s.extract p s.size = R at *
          have hsz : R.size = s.size - p := by have : R.size = (bs R).length := rfl; rw [this, HR.out, HLr.out]
          have hmin : min (2 : Int) 1 = 1 := rfl
          have hWe : R.extract 0 1 = ⟨#[33]⟩ := extract_one (HR.out.trans hdr)
          have hget : ∀ h, (⟨#[33]⟩ : ByteArray)[0]'h = 33 := fun _ => rfl
          go_wp2_with (first
            | (go_at_call 79; with_reducible refine (P1.out _).mono ?_; rintro e w2 ⟨rfl, rfl⟩))
          rw [set_drewN]
          have hx3 : Ext W0 ((w1.setCell ⟨g, 1, none⟩ (.int .i64 ((p : Int) + 1))).drewN nq) := (HT2.out.ext HX1.out hg0).drewN _
          refine (HRT.out _ (hN.ext hx3)).mono ?_
          rintro e w4 ⟨rfl, hx4⟩
          have HX4 := Lib.hid hx4
          have hz4 := hx4.size
          clear hx3 hx4 HRT
          cases ho : rTest (((bs s).drop p).take 1) with
          | none =>
            rw [ho] at HV
            have HV2 : Hid (o = none) := HV.out
            clear HV ho
            go_wp2
            exact ⟨rfl, by rw [HV2.out]; exact RetR.no (HT.out.trans (HT2.out.trans (Touched.of_ext (((Ext.refl _).drewN _).trans HX4.out))))⟩
          | some t =>
            rw [ho] at HV
            have HV2 : Hid (o = some ([(t : Int)], (bs s).drop (p + 1))) := HV.out
            clear HV ho
            go_wp2
            go_ret
            rw [HV2.out]
            have hx5 : Ext (w1.setCell ⟨g, 1, none⟩ (.int .i64 ((p : Int) + 1))) w4 := ((Ext.refl _).drewN _).trans HX4.out
            exact RetR.yes (HT.out.trans (HT2.out.trans (Touched.of_ext (hx5.trans (by (repeat (first | exact Ext.refl _ | assumption | refine Ext.alloc ?_ _ | refine Ext.drewN ?_ _ | refine Ext.drew ?_))))))) (OwnI.lit1 _ _ _ _ (Nat.le_trans (HT.out.trans HT2.out).size hx5.size)) rfl hNs (HK2.out.ext (hx5.trans (by (repeat (first | exact Ext.refl _ | assumption | refine Ext.alloc ?_ _ | refine Ext.drewN ?_ _ | refine Ext.drew ?_)))))
      · by_cases h91 : c = 91
        · subst h91
          have P1 : Hid (∀ w', Calls Tryd.prog 79 #[.string (s.extract p s.size), .string ⟨#[33]⟩] w' fun e w'' => e = .returned (.bool false) ∧ w' = w'') := fun w' => by
            have := hasPrefix_c (s.extract p s.size) ⟨#[33]⟩ w'
            rw [hpr, hdr, show (((91 : UInt8) :: (bs s).drop (p + 1)).head? == some 33) = false by simp] at this; exact this
          have P2 : Hid (∀ w', Calls Tryd.prog 79 #[.string (s.extract p s.size), .string ⟨#[91]⟩] w' fun e w'' => e = .returned (.bool true) ∧ w' = w'') := fun w' => by
            have := hasPrefix_c (s.extract p s.size) ⟨#[91]⟩ w'
            rw [hpr, hdr, show (((91 : UInt8) :: (bs s).drop (p + 1)).head? == some 91) = true by simp] at this; exact this
          have HR := Lib.hid (bs_rest s p)
          have hpi : (p : Int) ≤ (s.size : Int) := by omega
          obtain ⟨o, hO⟩ : ∃ o, Hid (o = rSingle (rSum d) ((bs s).drop p)) := ⟨_, rfl⟩
          rw [← hO.out]
          have HLr : Hid (((bs s).drop p).length = s.size - p) := by unfold Hid; rw [List.length_drop, bs_len]
          cases hix : ((bs s).drop p).idxOf? 93 with
          | some k =>
            have hkl : k < ((bs s).drop p).length := by
              have := List.idxOf?_eq_some_iff.1 hix
              exact this.1
            have hNs : p + (k + 1) ≤ s.size := by rw [HLr.out] at hkl; omega
            have hk1 : 1 ≤ k := by
              cases k with
              | zero => rw [hdr] at hix; simp [List.idxOf?_cons] at hix
              | succ k => omega
            have HV : Hid (o = ((rTest (((bs s).drop p).take (k + 1))).map Int.ofNat).map fun x => ([x], (bs s).drop (p + (k + 1)))) := by
              unfold Hid
              rw [hO.out, hdr]
              have hw : wordN (91 :: (bs s).drop (p + 1)) = k + 1 := by
                rw [hdr] at hix
                simp only [wordN]
                rw [if_neg (by decide), if_pos trivial, hix]
              simp only [rSingle]
              rw [if_neg hc40, hw, ← hdr, List.drop_drop, rWord_len (by rw [List.length_take, HLr.out]; omega)]
            have CI : Hid (∀ w' R, bs R = (bs s).drop p → Calls Tryd.prog 80 #[.string R, .int .u8 93] w' fun e w'' => e = .returned (.int .i64 k) ∧ w' = w'') := fun w' R hR => by
              have := indexByte_c R 93 w'
              rw [indexByte_eq] at this
              have e : R.data.toList.idxOf? (93 : Int).toNat.toUInt8 = some k := by rw [← hix, ← hR]; rfl
              rw [e] at this
              exact this
            have HRT : Hid (∀ w' R, bs R = (bs s).drop p → NamesW w' → Calls Tryd.prog 81 #[.string (R.extract 0 (k + 1))] w' (RetT2 w' (rTest (((bs s).drop p).take (k + 1))))) := fun w' R hR h => by
              have := readTest_c (R.extract 0 (k + 1)) w' h
              rw [bs_ext0, hR] at this
              exact this
            clear hO
            go_enter Tryd.func76, Tryd.ntmps76
            go_wp2_with fail
            refine CT.out.mono ?_
            rintro e w1 ⟨rfl, hk1', ht1⟩
            have c0 := hk1'.src
            have c1 := hk1'.pos
            have HT := Lib.hid ht1
            have HK1 := Lib.hid hk1'
            have f1 := hk1'.thaw.2 1
            have HX1 := Lib.hid (ht1.ext HX.out hg0)
            have hT2 : Touched w1 (w1.setCell ⟨g, 1, none⟩ (.int .i64 ((p + (k + 1) : Nat) : Int))) g (g + 1) := Touched.setCell _ _ _
            have hK2 := hk1'.set (p + (k + 1))
            rw [show (((p + (k + 1) : Nat)) : Int) = (p : Int) + (k + 1) by omega] at hT2 hK2
            have HT2 := Lib.hid hT2
            have HK2 := Lib.hid hK2
            clear hk1' ht1 hT2 hK2
            go_wp2
            go_quiet (fail)
            generalize s.extract p s.size = R at *
            have hsz : R.size = s.size - p := by have : R.size = (bs R).length := rfl; rw [this, HR.out, HLr.out]
            have hwz : (R.extract 0 (k + 1)).size = k + 1 := by rw [ByteArray.size_extract]; rw [HLr.out] at hkl; omega
            have hkn : ((k : Int) + 1).toNat = k + 1 := by omega
            have hkR : (k : Int) + 1 ≤ ((s.size - p : Nat) : Int) := by rw [HLr.out] at hkl; omega
            go_wp2_with (first
              | (go_at_call 79; with_reducible refine (P1.out _).mono ?_; rintro e w2 ⟨rfl, rfl⟩)
              | (go_at_call 79; with_reducible refine (P2.out _).mono ?_; rintro e w2 ⟨rfl, rfl⟩)
              | (go_at_call 80; refine (CI.out _ _ HR.out).mono ?_; rintro e w2 ⟨rfl, rfl⟩))
            rw [set_drewN]
            have hx3 : Ext W0 ((w1.setCell ⟨g, 1, none⟩ (.int .i64 ((p : Int) + (k + 1)))).drewN nq) := (HT2.out.ext HX1.out hg0).drewN _
            refine (HRT.out _ R HR.out (hN.ext hx3)).mono ?_
            rintro e w4 ⟨rfl, hx4⟩
            have HX4 := Lib.hid hx4
            have hz4 := hx4.size
            clear hx3 hx4 HRT
            cases ho : rTest (((bs s).drop p).take (k + 1)) with
            | none =>
              rw [ho] at HV
              have HV2 : Hid (o = none) := HV.out
              clear HV ho
              go_wp2
              exact ⟨rfl, by rw [HV2.out]; exact RetR.no (HT.out.trans (HT2.out.trans (Touched.of_ext (((Ext.refl _).drewN _).trans HX4.out))))⟩
            | some t =>
              rw [ho] at HV
              have HV2 : Hid (o = some ([(t : Int)], (bs s).drop (p + (k + 1)))) := HV.out
              clear HV ho
              go_wp2
              go_ret
              rw [HV2.out]
              have hx5 : Ext (w1.setCell ⟨g, 1, none⟩ (.int .i64 ((p : Int) + (k + 1)))) w4 := ((Ext.refl _).drewN _).trans HX4.out
              exact RetR.yes (HT.out.trans (HT2.out.trans (Touched.of_ext (hx5.trans (by (repeat (first | exact Ext.refl _ | assumption | refine Ext.alloc ?_ _ | refine Ext.drewN ?_ _ | refine Ext.drew ?_))))))) (OwnI.lit1 _ _ _ _ (Nat.le_trans (HT.out.trans HT2.out).size hx5.size)) rfl hNs (HK2.out.ext (hx5.trans (by (repeat (first | exact Ext.refl _ | assumption | refine Ext.alloc ?_ _ | refine Ext.drewN ?_ _ | refine Ext.drew ?_)))))
          | none =>
            have HV2 : Hid (o = none) := by
              unfold Hid
              rw [hO.out, hdr]
              have hw : wordN (91 :: (bs s).drop (p + 1)) = 0 := by
                rw [hdr] at hix
                simp only [wordN]
                rw [if_neg (by decide), if_pos trivial, hix]
              simp only [rSingle]
              rw [if_neg hc40, hw, List.take_zero, rWord_len (by decide), rTest_nil]
              rfl
            have CI : Hid (∀ w' R, bs R = (bs s).drop p → Calls Tryd.prog 80 #[.string R, .int .u8 93] w' fun e w'' => e = .returned (.int .i64 (-1)) ∧ w' = w'') := fun w' R hR => by
              have := indexByte_c R 93 w'
              rw [indexByte_eq] at this
              have e : R.data.toList.idxOf? (93 : Int).toNat.toUInt8 = none := by rw [← hix, ← hR]; rfl
              rw [e] at this
              exact this
            have HRT : Hid (∀ w', NamesW w' → Calls Tryd.prog 81 #[.string ByteArray.empty] w' (RetT2 w' none)) := fun w' h => by
              have := readTest_c ByteArray.empty w' h
              rw [show rTest (bs ByteArray.empty) = none from rTest_nil] at this
              exact this
            clear hO hix
            go_enter Tryd.func76, Tryd.ntmps76
            go_wp2_with fail
            refine CT.out.mono ?_
            rintro e w1 ⟨rfl, hk1, ht1⟩
            have c0 := hk1.src
            have c1 := hk1.pos
            have HT := Lib.hid ht1
            have f1 := hk1.thaw.2 1
            have HX1 := Lib.hid (ht1.ext HX.out hg0)
            have hT2 : Touched w1 (w1.setCell ⟨g, 1, none⟩ (.int .i64 p)) g (g + 1) := Touched.setCell _ _ _
            have HT2 := Lib.hid hT2
            clear hk1 ht1 hT2
            go_wp2
            go_quiet (fail)
            generalize s.extract p s.size = R at *
            go_wp2_with (first
              | (go_at_call 79; with_reducible refine (P1.out _).mono ?_; rintro e w2 ⟨rfl, rfl⟩)
              | (go_at_call 79; with_reducible refine (P2.out _).mono ?_; rintro e w2 ⟨rfl, rfl⟩)
              | (go_at_call 80; refine (CI.out _ _ HR.out).mono ?_; rintro e w2 ⟨rfl, rfl⟩))
            rw [set_drewN]
            have hx3 : Ext W0 ((w1.setCell ⟨g, 1, none⟩ (.int .i64 p)).drewN nq) := (HT2.out.ext HX1.out hg0).drewN _
            refine (HRT.out _ (hN.ext hx3)).mono ?_
            rintro e w4 ⟨rfl, hx4⟩
            have HX4 := Lib.hid hx4
            clear hx3 hx4 HRT
            go_wp2
            exact ⟨rfl, by rw [HV2.out]; exact RetR.no (HT.out.trans (HT2.out.trans (Touched.of_ext (((Ext.refl _).drewN _).trans HX4.out))))⟩
        · have P1 : Hid (∀ w', Calls Tryd.prog 79 #[.string (s.extract p s.size), .string ⟨#[33]⟩] w' fun e w'' => e = .returned (.bool false) ∧ w' = w'') := fun w' => by
            have := hasPrefix_c (s.extract p s.size) ⟨#[33]⟩ w'
            rw [hpr, hdr, show ((c :: (bs s).drop (p + 1)).head? == some 33) = false by simpa using h33] at this; exact this
          have P2 : Hid (∀ w', Calls Tryd.prog 79 #[.string (s.extract p s.size), .string ⟨#[91]⟩] w' fun e w'' => e = .returned (.bool false) ∧ w' = w'') := fun w' => by
            have := hasPrefix_c (s.extract p s.size) ⟨#[91]⟩ w'
            rw [hpr, hdr, show ((c :: (bs s).drop (p + 1)).head? == some 91) = false by simpa using h91] at this; exact this
          have HR := Lib.hid ((bs_rest s p).trans hdr)
          have HF : Hid (rSingle (rSum d) (c :: (bs s).drop (p + 1)) = (rWord [c]).map fun x => ([x], (bs s).drop (p + 1))) := by
            unfold Hid; simp only [rSingle]; rw [if_neg hc40]; simp [wordN, h33, h91]
          rw [hdr]
          obtain ⟨o, hO⟩ : ∃ o, Hid (o = rSingle (rSum d) (c :: (bs s).drop (p + 1))) := ⟨_, rfl⟩
          rw [← hO.out]
          rw [HF.out] at hO
          have hpi : (p : Int) ≤ (s.size : Int) := by omega
          clear hh hpr hdr hc40 h33 h91 hcv HF
          by_cases hl : 97 ≤ c ∧ c ≤ 99
          · have h1 : (97 : Int) ≤ c.toNat := by have := UInt8.le_iff_toNat_le.1 hl.1; have e : (97 : UInt8).toNat = 97 := rfl; omega
            have h2 : (c.toNat : Int) ≤ 99 := by have := UInt8.le_iff_toNat_le.1 hl.2; have e : (99 : UInt8).toNat = 99 := rfl; omega
            have HV : Hid (o = some ([16 + ((c.toNat : Int) - 97)], (bs s).drop (p + 1))) := by
              unfold Hid; rw [hO.out]; simp only [rWord]; rw [if_pos hl]; rfl
            clear hO hl
            go_enter Tryd.func76, Tryd.ntmps76
            go_wp2_with fail
            refine CT.out.mono ?_
            rintro e w1 ⟨rfl, hk1, ht1⟩
            have c0 := hk1.src
            have c1 := hk1.pos
            have HT := Lib.hid ht1
            have HK1 := Lib.hid hk1
            have f1 := hk1.thaw.2 1
            clear hk1 ht1
            go_wp2
            go_quiet (fail)
            generalize s.extract p s.size = R at *
            have hre : R.toList.isEmpty = false := by rw [Lib.toList_data]; show (bs R).isEmpty = false; rw [HR.out]; rfl
            have hsz : R.size = (bs R).length := rfl
            have hsz1 : 1 ≤ R.size := by rw [hsz, HR.out]; simp
            have hWe : R.extract 0 1 = ⟨#[c]⟩ := extract_one HR.out
            have hget : ∀ h, (⟨#[c]⟩ : ByteArray)[0]'h = c := fun _ => rfl
            clear hsz HR
            go_wp2_with (first
              | (go_at_call 79; with_reducible refine (P1.out _).mono ?_; rintro e w2 ⟨rfl, rfl⟩)
              | (go_at_call 79; with_reducible refine (P2.out _).mono ?_; rintro e w2 ⟨rfl, rfl⟩))
            go_ret
            rw [HV.out]
            have hT2 : Touched w1 (w1.setCell ⟨g, 1, none⟩ (.int .i64 ((p + 1 : Nat) : Int))) g (g + 1) := Touched.setCell _ _ _
            have hK2 := HK1.out.set (p + 1)
            rw [show (((p + 1 : Nat)) : Int) = (p : Int) + 1 by omega] at hT2 hK2
            have hz := HT.out.size
            have hB := own_lit_set w1 nq g w.heap.size 3 (.int .i64 ((p : Int) + 1)) (16 + ((c.toNat : Int) - 97)) hz
            refine RetR.yes (HT.out.trans (hT2.trans (Touched.of_ext ?_))) hB rfl hlt (hK2.ext ?_)
            · rw [set_drewN]; exact ((Ext.refl _).drewN _).alloc _
            · rw [set_drewN]; exact ((Ext.refl _).drewN _).alloc _
          · have hn1 : ¬ ((97 : Int) ≤ c.toNat ∧ (c.toNat : Int) ≤ 99) := fun h => hl ⟨UInt8.le_iff_toNat_le.2 (by have e : (97 : UInt8).toNat = 97 := rfl; omega), UInt8.le_iff_toNat_le.2 (by have e : (99 : UInt8).toNat = 99 := rfl; omega)⟩
            have HV : Hid (o = ((rTest [c]).map Int.ofNat).map fun x => ([x], (bs s).drop (p + 1))) := by
              unfold Hid; rw [hO.out]; simp only [rWord]; rw [if_neg hl]
            have HRT : Hid (∀ w', NamesW w' → Calls Tryd.prog 81 #[.string ⟨#[c]⟩] w' (RetT2 w' (rTest [c]))) := fun w' h => readTest_c ⟨#[c]⟩ w' h
            clear hO hl
            rcases (show (c.toNat : Int) < 97 ∨ (97 : Int) ≤ c.toNat ∧ 99 < (c.toNat : Int) by omega) with h1 | ⟨h1, h2⟩
            all_goals
              clear hn1
              go_enter Tryd.func76, Tryd.ntmps76
              go_wp2_with fail
              refine CT.out.mono ?_
              rintro e w1 ⟨rfl, hk1, ht1⟩
              have c0 := hk1.src
              have c1 := hk1.pos
              have HT := Lib.hid ht1
              have HK1 := Lib.hid hk1
              have f1 := hk1.thaw.2 1
              have HX1 := Lib.hid (ht1.ext HX.out hg0)
              have hT2 : Touched w1 (w1.setCell ⟨g, 1, none⟩ (.int .i64 ((p + 1 : Nat) : Int))) g (g + 1) := Touched.setCell _ _ _
              have hK2 := hk1.set (p + 1)
              rw [show (((p + 1 : Nat)) : Int) = (p : Int) + 1 by omega] at hT2 hK2
              have HT2 := Lib.hid hT2
              have HK2 := Lib.hid hK2
              clear hk1 ht1 hT2 hK2
              go_wp2
              go_quiet (fail)
              generalize s.extract p s.size = R at *
              have hre : R.toList.isEmpty = false := by rw [Lib.toList_data]; show (bs R).isEmpty = false; rw [HR.out]; rfl
              have hsz : R.size = (bs R).length := rfl
              have hsz1 : 1 ≤ R.size := by rw [hsz, HR.out]; simp
              have hWe : R.extract 0 1 = ⟨#[c]⟩ := extract_one HR.out
              have hget : ∀ h, (⟨#[c]⟩ : ByteArray)[0]'h = c := fun _ => rfl
              clear hsz HR
              go_wp2_with (first
                | (go_at_call 79; with_reducible refine (P1.out _).mono ?_; rintro e w2 ⟨rfl, rfl⟩)
                | (go_at_call 79; with_reducible refine (P2.out _).mono ?_; rintro e w2 ⟨rfl, rfl⟩))
              rw [set_drewN]
              have hx3 : Ext W0 ((w1.setCell ⟨g, 1, none⟩ (.int .i64 ((p : Int) + 1))).drewN nq) := (HT2.out.ext HX1.out hg0).drewN _
              refine (HRT.out _ (hN.ext hx3)).mono ?_
              rintro e w4 ⟨rfl, hx4⟩
              have HX4 := Lib.hid hx4
              have hz4 := hx4.size
              clear hx3 hx4 HRT
              cases ho : rTest [c] with
              | none =>
                rw [ho] at HV
                have HV2 : Hid (o = none) := HV.out
                clear HV ho
                go_wp2
                exact ⟨rfl, by rw [HV2.out]; exact RetR.no (HT.out.trans (HT2.out.trans (Touched.of_ext (((Ext.refl _).drewN _).trans HX4.out))))⟩
              | some t =>
                rw [ho] at HV
                have HV2 : Hid (o = some ([(t : Int)], (bs s).drop (p + 1))) := HV.out
                clear HV ho
                go_wp2
                go_ret
                rw [HV2.out]
                have hx5 : Ext (w1.setCell ⟨g, 1, none⟩ (.int .i64 ((p : Int) + 1))) w4 := ((Ext.refl _).drewN _).trans HX4.out
                exact RetR.yes (HT.out.trans (HT2.out.trans (Touched.of_ext (hx5.trans (by (repeat (first | exact Ext.refl _ | assumption | refine Ext.alloc ?_ _ | refine Ext.drewN ?_ _ | refine Ext.drew ?_))))))) (OwnI.lit1 _ _ _ _ (Nat.le_trans (HT.out.trans HT2.out).size hx5.size)) rfl hlt (HK2.out.ext (hx5.trans (by (repeat (first | exact Ext.refl _ | assumption | refine Ext.alloc ?_ _ | refine Ext.drewN ?_ _ | refine Ext.drew ?_)))))
    · obtain rfl : p = s.size := by omega
      have hd0 : (bs s).drop s.size = [] := drop_out hlt
      have P1 : Hid (∀ w', Calls Tryd.prog 79 #[.string ByteArray.empty, .string ⟨#[33]⟩] w' fun e w'' => e = .returned (.bool false) ∧ w' = w'') := fun w' => hasPrefix_c ByteArray.empty ⟨#[33]⟩ w'
      have P2 : Hid (∀ w', Calls Tryd.prog 79 #[.string ByteArray.empty, .string ⟨#[91]⟩] w' fun e w'' => e = .returned (.bool false) ∧ w' = w'') := fun w' => hasPrefix_c ByteArray.empty ⟨#[91]⟩ w'
      rw [hd0]
      clear hh hpr hd0 hlt
      go_enter Tryd.func76, Tryd.ntmps76
      go_wp2_with fail
      refine CT.out.mono ?_
      rintro e w1 ⟨rfl, hk1, ht1⟩
      have c0 := hk1.src
      have c1 := hk1.pos
      have HT := Lib.hid ht1
      clear hk1 ht1
      go_wp2
      go_quiet (fail)
      go_wp2_with (first
        | (go_at_call 79; with_reducible refine (P1.out _).mono ?_; rintro e w2 ⟨rfl, rfl⟩)
        | (go_at_call 79; with_reducible refine (P2.out _).mono ?_; rintro e w2 ⟨rfl, rfl⟩))
      exact ⟨rfl, RetR.no (HT.out.trans (Touched.of_ext (by (repeat (first | exact Ext.refl _ | assumption | refine Ext.alloc ?_ _ | refine Ext.drewN ?_ _ | refine Ext.drew ?_)))))⟩
  · have hlt : p < s.size := by
      by_cases h : p < s.size
      · exact h
      · rw [hit_out h] at hh; cases hh
    have hc : s[p] = 40 := by rw [hit_in hlt] at hh; simpa using hh
    have hdr : (bs s).drop p = 40 :: (bs s).drop (p + 1) := by rw [drop_at hlt, hc]
    have CT : Hid (Calls Tryd.prog 60 #[.pointer (some ⟨g, 0, none⟩), .int .u8 40] w (RetB w g s (p + 1) true)) := by
      have := take_c g p s 40 40 rfl w HK.out hs hp
      rw [hh] at this; exact this
    rw [hdr]
    clear hh hc hdr
    have CS : Hid (∀ w', Ext W0 w' → Kr w' g s (p + 1) → Calls Tryd.prog 30 #[.pointer (some ⟨g, 0, none⟩)] w' (RetR w' g s (rSum d ((bs s).drop (p + 1))))) := fun w' h1 h2 => HS.out (p + 1) w' h1 h2 hlt (by omega)
    have HF : Hid (rSingle (rSum d) (40 :: (bs s).drop (p + 1)) = shutR (rSum d ((bs s).drop (p + 1)))) := by
      unfold Hid; simp only [rSingle]; rw [if_pos trivial]; rfl
    rw [HF.out]
    cases hr : rSum d ((bs s).drop (p + 1)) with
    | none =>
      rw [hr] at CS
      clear HF hr
      go_enter Tryd.func76, Tryd.ntmps76
      go_wp2_with fail
      refine CT.out.mono ?_
      rintro e w1 ⟨rfl, hk1, ht1⟩
      have HX1 := Lib.hid (ht1.ext HX.out hg0)
      go_wp2_with fail
      refine (CS.out _ HX1.out hk1).mono ?_
      rintro e w2 ⟨ht2, rfl⟩
      have HT := Lib.hid (ht1.trans ht2)
      clear ht1 ht2 hk1
      go_wp2
      exact ⟨rfl, RetR.no HT.out⟩
    | some x =>
      obtain ⟨l, r⟩ := x
      rw [hr] at CS
      have HL := Lib.hid (sum_less d _ _ _ hr)
      obtain ⟨o, hO⟩ : ∃ o, Hid (o = shutR (some (l, r))) := ⟨_, rfl⟩
      rw [← hO.out]
      clear HF hr
      go_enter Tryd.func76, Tryd.ntmps76
      go_wp2_with fail
      refine CT.out.mono ?_
      rintro e w1 ⟨rfl, hk1, ht1⟩
      have HX1 := Lib.hid (ht1.ext HX.out hg0)
      go_wp2_with fail
      refine (CS.out _ HX1.out hk1).mono ?_
      rintro e w2 ⟨ht2, v, q, rfl, ho, hq, hqs, hk2⟩
      have HT := Lib.hid (ht1.trans ht2)
      have HK2 := Lib.hid hk2
      have hz1 := ht1.size
      obtain ⟨av, cv, rfl, -⟩ := ho.shape
      have HO := Lib.hid (ho.mono (B' := w.heap.size) hz1)
      have zg2 := hk2.lt
      clear ht1 ht2 hk1 hk2 ho
      have CT2 := take_c g q s 41 41 rfl w2 HK2.out hs hqs
      cases hh : hitB s q 41
      · rw [hh] at CT2
        have CT3 : Hid (Calls Tryd.prog 60 #[.pointer (some ⟨g, 0, none⟩), .int .u8 41] w2 (RetB w2 g s q false)) := CT2
        have hne : r.head? ≠ some 41 := by
          unfold hitB at hh; rw [hq] at hh; intro e; rw [e] at hh; simp at hh
        have HR : Hid (o = none) := hO.out.trans (shut_no hne)
        clear CT2 hh hne
        go_wp2_with fail
        refine CT3.out.mono ?_
        rintro e w3 ⟨rfl, hk3, ht3⟩
        have HT3 := Lib.hid (HT.out.trans ht3)
        clear hk3 ht3
        go_wp2
        exact ⟨rfl, by rw [HR.out]; exact RetR.no HT3.out⟩
      · rw [hh] at CT2
        have CT3 : Hid (Calls Tryd.prog 60 #[.pointer (some ⟨g, 0, none⟩), .int .u8 41] w2 (RetB w2 g s (q + 1) true)) := CT2
        have hlt2 : q < s.size := by
          by_cases h : q < s.size
          · exact h
          · rw [hit_out h] at hh; cases hh
        have hc2 : s[q] = 41 := by rw [hit_in hlt2] at hh; simpa using hh
        obtain rfl : r = 41 :: (bs s).drop (q + 1) := by rw [← hq, drop_at hlt2, hc2]
        have HR : Hid (o = some (l, (bs s).drop (q + 1))) := hO.out.trans (shut_yes _ _)
        clear CT2 hh hc2 hO hq
        go_wp2_with fail
        refine CT3.out.mono ?_
        rintro e w3 ⟨rfl, hk3, ht3⟩
        have HT3 := Lib.hid (HT.out.trans ht3)
        have HK3 := Lib.hid hk3
        have HO3 := Lib.hid (HO.out.untouched ht3 (fun g' hg' => .inr (by have := (World.ownsRow.lt HO.out g' hg').1; omega)))
        clear hk3 ht3
        go_wp2
        go_ret
        rw [HR.out]
        exact RetR.yes HT3.out HO3.out rfl hlt2 HK3.out
end Go.Proofs.YtlaamecfknkmlaaDoor
