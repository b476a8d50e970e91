/- Merged texts: contracts and plain lemmas (Cr). -/
import Derived.Test.YtlaamecfknkmlaaDoorMh44
import Derived.Test.YtlaamecfknkmlaaDoorMh23
/- Contracts: where codes end. -/
namespace Go.Proofs.YtlaamecfknkmlaaDoor
set_option linter.unusedVariables false
open Go.RowKit Go.Kt

theorem run_ex (p q : Int) (ll : List (List Int)) (L : List Int) (s N : Nat) : ∃ x y, RunIs p q ll L s N x y := by
  by_cases hg : Going p q ll L s N
  · exact ⟨-1, 0, .inr ⟨hg, rfl, rfl⟩⟩
  · obtain ⟨k, hk, hgk, he⟩ := first_end N hg
    exact ⟨_, _, .inl ⟨k, hk, hgk, he, rfl, rfl⟩⟩
/-- The arguments of CodeRun fit. -/
def crB (st p q : Int) (ll : List (List Int)) (n : Nat) (L : List Int) (s : Int) : Bool := certF st p q ll && cvB n L && inB s 0 (st - 1)
/-- What CodeRun answers. -/
def CrIs (st p q : Int) (ll : List (List Int)) (n : Nat) (L : List Int) (s : Int) (x y : Int) : Prop :=
  if crB st p q ll n L s then RunIs p q ll L s.toNat (st.toNat * n) x y else x = -1 ∧ y = 0
theorem CrIs.unique {st p q : Int} {ll : List (List Int)} {n : Nat} {L : List Int} {s x y x' y' : Int} (h : CrIs st p q ll n L s x y) (h' : CrIs st p q ll n L s x' y') : x = x' ∧ y = y' := by
  unfold CrIs at h h'
  by_cases hb : crB st p q ll n L s = true
  · rw [if_pos hb] at h h'; exact h.unique h'
  · rw [if_neg hb] at h h'; exact ⟨h.1.trans h'.1.symm, h.2.trans h'.2.symm⟩
def RetRun (w : World) (st p q : Int) (ll : List (List Int)) (n : Nat) (L : List Int) (s : Int) (e : Ending) (w' : World) : Prop := ∃ x y, e = .returned (.tuple #[.int .i64 x, .int .i64 y]) ∧ CrIs st p q ll n L s x y ∧ Ext w w'
theorem nxt_do {p q : Int} {ll : List (List Int)} {L : List Int} {c s j y : Nat} (hk : kd L c = 0) (ha : ag L c = 16 + (y : Int)) (hj : natAt (rowI ll y) s = pow2 j) : nxt p q ll L (c, s) = (c + 1, j) := by
  unfold nxt
  rw [if_pos hk]
  show (c + 1, Nat.log2 (natAt (rowI ll ((ag L c).toNat - 16)) s)) = _
  rw [ha, show (16 + (y : Int)).toNat - 16 = y by omega, hj, log2_pow2]
theorem nxt_test {p q : Int} {ll : List (List Int)} {L : List Int} {c s A T : Nat} (hk : kd L c = 1) (ha : ag L c = (A : Int)) (ht : tg L c = (T : Int)) : nxt p q ll L (c, s) = ((if A.testBit (atomI p q s) then c + 1 else T), s) := by
  unfold nxt
  rw [if_neg (by simp [hk]), if_pos hk]
  show ((if (ag L c).toNat.testBit (atomI p q s) then c + 1 else (tg L c).toNat), s) = _
  rw [ha, ht, Int.toNat_natCast, Int.toNat_natCast]
theorem nxt_jump {p q : Int} {ll : List (List Int)} {L : List Int} {c s T : Nat} (hk : kd L c = 2) (ht : tg L c = (T : Int)) : nxt p q ll L (c, s) = (T, s) := by
  unfold nxt
  rw [if_neg (by simp [hk]), if_neg (by simp [hk]), if_pos hk]
  show ((tg L c).toNat, s) = _
  rw [ht, Int.toNat_natCast]
theorem box_cr (w : World) (st p q : Int) (v : Value) : BoxM (w.alloc (.cells #[.int .i64 st, .int .i64 p, .int .i64 q, v] 25)) w.heap.size st p q v := by simp [BoxM, go_sem]
set_option maxRecDepth 100000 in
set_option maxHeartbeats 4000000 in
theorem iCodeRun_c (st p q : Int) (a : Option Addr) (cap : Nat) (ll : List (List Int)) (b : Option Addr) (n cb : Nat) (L : List Int) (x : Int) (w : World) (hr : RowsAt w a ll) (hlen : ll.length ≤ 4194304) (hm : ∀ i, i < ll.length → (rowI ll i).length ≤ 4194304)
    (hl : FlatAt w b n L) (hln : n ≤ 4194304) (ht : TabW w) :
    Calls Tryd.prog 18 #[modelV st p q a ll.length cap, .slice b n cb, .int .i64 x] w (RetRun w st p q ll n L x) := by
  have HR := Lib.hid hr
  have HM := Lib.hid hm
  have HL := Lib.hid hl
  have HTb := Lib.hid ht
  clear hr hm hl ht
  cases hv : certF st p q ll
  · have HF : Hid (CrIs st p q ll n L x (-1) 0) := by unfold Hid CrIs crB; rw [hv]; exact ⟨rfl, rfl⟩
    go_enter Tryd.func18, Tryd.ntmps18
    go_wp2_with fail
    refine (iCertain_c st p q a cap ll _ (HR.out.ext (by (repeat (first | exact Ext.refl _ | assumption | refine Ext.alloc ?_ _ | refine Ext.drewN ?_ _ | refine Ext.drew ?_)))) hlen HM.out).mono ?_
    rw [hv]
    rintro e w1 ⟨rfl, hx⟩
    have hx2 := Ext.trans (by (repeat (first | exact Ext.refl _ | assumption | refine Ext.alloc ?_ _ | refine Ext.drewN ?_ _ | refine Ext.drew ?_)) : Ext w _) hx
    clear hx
    go_wp2
    go_ret2
    exact ⟨_, _, rfl, HF.out, hx2⟩
  · cases hs : cvB n L
    · have HF : Hid (CrIs st p q ll n L x (-1) 0) := by unfold Hid CrIs crB; rw [hv, hs]; exact ⟨rfl, rfl⟩
      go_enter Tryd.func18, Tryd.ntmps18
      go_wp2_with fail
      refine (iCertain_c st p q a cap ll _ (HR.out.ext (by (repeat (first | exact Ext.refl _ | assumption | refine Ext.alloc ?_ _ | refine Ext.drewN ?_ _ | refine Ext.drew ?_)))) hlen HM.out).mono ?_
      rw [hv]
      rintro e w1 ⟨rfl, hx⟩
      have hx2 := Lib.hid (Ext.trans (by (repeat (first | exact Ext.refl _ | assumption | refine Ext.alloc ?_ _ | refine Ext.drewN ?_ _ | refine Ext.drew ?_)) : Ext w _) hx)
      clear hx
      go_wp2_with fail
      refine (iCodeValid_c b n cb L _ (HL.out.ext hx2.out) hln).mono ?_
      rw [hs]
      rintro e w2 ⟨rfl, hx⟩
      have hx3 := hx2.out.trans hx
      clear hx
      go_wp2
      go_ret2
      exact ⟨_, _, rfl, HF.out, hx3⟩
    · have hmv : mvB st p q ll = true := by unfold certF at hv; rw [Bool.and_eq_true] at hv; exact hv.1
      obtain ⟨s, P, Q, rfl, rfl, rfl, b1, b2, b3, b4, b5, b6, b7, b8⟩ := mvB_bounds hmv
      have HV := Lib.hid hv
      have HS := Lib.hid hs
      cases hxs : inB x 0 ((s : Int) - 1)
      · have HF : Hid (CrIs s P Q ll n L x (-1) 0) := by unfold Hid CrIs crB; rw [hv, hs, hxs]; exact ⟨rfl, rfl⟩
        have HXS := Lib.hid hxs
        clear hv hs hxs hmv b7 b8
        go_enter Tryd.func18, Tryd.ntmps18
        go_wp2_with fail
        refine (iCertain_c _ _ _ a cap ll _ (HR.out.ext (by (repeat (first | exact Ext.refl _ | assumption | refine Ext.alloc ?_ _ | refine Ext.drewN ?_ _ | refine Ext.drew ?_)))) hlen HM.out).mono ?_
        rw [HV.out]
        rintro e w1 ⟨rfl, hx⟩
        have hx2 := Lib.hid (Ext.trans (by (repeat (first | exact Ext.refl _ | assumption | refine Ext.alloc ?_ _ | refine Ext.drewN ?_ _ | refine Ext.drew ?_)) : Ext w _) hx)
        have hb1 := (box_cr w s P Q (.slice a ll.length cap)).ext hx
        clear hx
        go_wp2_with fail
        refine (iCodeValid_c b n cb L _ (HL.out.ext hx2.out) hln).mono ?_
        rw [HS.out]
        rintro e w2 ⟨rfl, hx⟩
        have hx3 := Lib.hid (hx2.out.trans hx)
        have hb2 := hb1.ext hx
        have zb := hb2.lt
        obtain ⟨k0, k1, k2, k3⟩ := hb2.out
        clear hx hb1 hb2
        go_wp2_with fail
        refine (hasState_c _ _ _ _ _ _).mono ?_
        rw [HXS.out]
        rintro e w3 ⟨rfl, y⟩
        have hx4 := hx3.out.trans (Ext.trans (by (repeat (first | exact Ext.refl _ | assumption | refine Ext.alloc ?_ _ | refine Ext.drewN ?_ _ | refine Ext.drew ?_))) y)
        clear y
        go_wp2
        go_ret2
        exact ⟨_, _, rfl, HF.out, hx4⟩
      · have hx01 : 0 ≤ x ∧ x ≤ (s : Int) - 1 := by simpa [inB] using hxs
        obtain ⟨X, rfl⟩ := Int.eq_ofNat_of_zero_le hx01.1
        have hXs : X < s := by omega
        have HF : Hid (∀ x y, RunIs P Q ll L X (s * n) x y → CrIs s P Q ll n L X x y) := fun x y h => by
          unfold CrIs crB; rw [hv, hs, hxs, Int.toNat_natCast, Int.toNat_natCast]; exact h
        have HXS := Lib.hid hxs
        have hone := certF_one hv
        have HIn : Hid (∀ k, (run P Q ll L X k).1 < n ∧ (run P Q ll L X k).2 < s) := run_in hs hone hXs
        have HOne := Lib.hid hone
        obtain ⟨hn1, hn40, -, hall⟩ := cvB_bounds hs
        have HA := Lib.hid hall
        have H7 := Lib.hid b7
        have H8 := Lib.hid b8
        have hlen3 : 0 < ll.length := by rw [b7]; omega
        have hN : n * s ≤ 200 := by have := Nat.mul_le_mul hn40 b2; omega
        obtain ⟨N, hNe⟩ : ∃ N, N = n * s := ⟨_, rfl⟩
        have hmul2 : (n : Int) * (s : Int) = (N : Int) := by rw [hNe]; push_cast; rfl
        have hmul : IntKind.i64.wrap ((n : Int) * (s : Int)) = (N : Int) := by rw [hmul2]; exact IntWalk.i64_in _ (by omega)
        have hmul3 : IntKind.i64.wrap ((s : Int) * (n : Int)) = (N : Int) := by rw [Int.mul_comm]; exact hmul
        have hmul4 : (s : Int) * (n : Int) = (N : Int) := by rw [Int.mul_comm]; exact hmul2
        have hN2 : N ≤ 200 := by omega
        rw [show s * n = N by rw [hNe, Nat.mul_comm]] at HF
        obtain ⟨ba, oa, h8, h9⟩ := HR.out
        obtain ⟨rfl, zba⟩ := h8 hlen3
        have H9 := Lib.hid h9
        obtain ⟨bt, ot, rfl, zbt, hcc⟩ := HL.out.cells (by omega)
        have HC := Lib.hid hcc
        clear hv hs hxs hmv b7 b8 hone hall h8 h9 hcc hNe hN hx01
        go_enter Tryd.func18, Tryd.ntmps18
        go_wp2_with fail
        refine (iCertain_c _ _ _ _ cap ll _ (HR.out.ext (by (repeat (first | exact Ext.refl _ | assumption | refine Ext.alloc ?_ _ | refine Ext.drewN ?_ _ | refine Ext.drew ?_)))) hlen HM.out).mono ?_
        rw [HV.out]
        rintro e w1 ⟨rfl, hx⟩
        have hx2 := Lib.hid (Ext.trans (by (repeat (first | exact Ext.refl _ | assumption | refine Ext.alloc ?_ _ | refine Ext.drewN ?_ _ | refine Ext.drew ?_)) : Ext w _) hx)
        have hb1 := (box_cr w s P Q (.slice (some ⟨ba, oa, none⟩) ll.length cap)).ext hx
        clear hx
        go_wp2_with fail
        refine (iCodeValid_c _ n cb L _ (HL.out.ext hx2.out) hln).mono ?_
        rw [HS.out]
        rintro e w2 ⟨rfl, hx⟩
        have hx3 := Lib.hid (hx2.out.trans hx)
        have hb2 := hb1.ext hx
        have HB2 := Lib.hid hb2
        have zb := hb2.lt
        obtain ⟨k0, k1, k2, k3⟩ := hb2.out
        clear hx hb1 hb2 hx2
        go_wp2_with fail
        refine (hasState_c _ _ _ _ _ _).mono ?_
        rw [HXS.out]
        rintro e w3 ⟨rfl, y⟩
        have HX := Lib.hid (hx3.out.trans (Ext.trans (by (repeat (first | exact Ext.refl _ | assumption | refine Ext.alloc ?_ _ | refine Ext.drewN ?_ _ | refine Ext.drew ?_))) y))
        have HB := Lib.hid (HB2.out.ext (Ext.trans (by (repeat (first | exact Ext.refl _ | assumption | refine Ext.alloc ?_ _ | refine Ext.drewN ?_ _ | refine Ext.drew ?_))) y))
        clear y k0 k1 k2 k3 zb HB2 hx3
        go_wp2
        go_loopw [2, 8, 9] (fun sv av dv wr => Hid (∃ k D : Nat, Hid (D = k + 1) ∧ k ≤ N ∧ dv = .int .i64 (D : Int) ∧ av = .int .i64 ((run P Q ll L X k).1 : Nat) ∧ sv = .int .i64 ((run P Q ll L X k).2 : Nat) ∧ Going P Q ll L X k ∧ BoxM wr w.heap.size s P Q (.slice (some ⟨ba, oa, none⟩) ll.length cap) ∧ Ext w wr)) (fun _ _ dv _ => N + 2 - (intOf dv).toNat)
        case atStart => exact Lib.hid ⟨0, 1, rfl, Nat.zero_le _, rfl, rfl, rfl, fun j hj => absurd hj (Nat.not_lt_zero _), HB.out, HX.out⟩
        case round =>
          obtain ⟨k, D, HD, hk, rfl, rfl, rfl, hgo, hbx, hxr⟩ := hrel.out
          clear hrel HB HX
          have HGo := Lib.hid hgo
          have HB := Lib.hid hbx
          have HX := Lib.hid hxr
          have zb := hbx.lt
          obtain ⟨k0, k1, k2, k3⟩ := hbx.out
          by_cases hlt : k < N
          · have hDN : D ≤ N := by have := HD.out; omega
            obtain ⟨hc1, hc2⟩ := HIn.out k
            have HRun : Hid (∀ x y, nxt P Q ll L (run P Q ll L X k) = (x, y) → run P Q ll L X (k + 1) = (x, y)) := fun x y h => h
            have HEnd : Hid (kd L (run P Q ll L X k).1 = 3 → CrIs s P Q ll n L X ((run P Q ll L X k).2 : Nat) (D : Int)) := fun h => HF.out _ _ (.inl ⟨k, hlt, HGo.out, h, rfl, by rw [HD.out]⟩)
            have HGo2 : Hid (kd L (run P Q ll L X k).1 ≠ 3 → Going P Q ll L X (k + 1)) := fun h => upto_succ (P := fun j => kd L (run P Q ll L X j).1 ≠ 3) HGo.out h
            obtain ⟨c, e⟩ : ∃ c, c = run P Q ll L X k := ⟨_, rfl⟩
            rw [← e] at hc1 hc2 HRun HEnd HGo2 ⊢
            have He := Lib.hid e
            obtain ⟨C, S⟩ := c
            simp only at hc1 hc2 HEnd HGo2 ⊢
            have hi := HA.out C hc1
            obtain ⟨d0, d1, d2⟩ := HC.out C hc1
            replace d0 := hxr.cell' d0 zbt
            replace d1 := hxr.cell' d1 zbt
            replace d2 := hxr.cell' d2 zbt
            have zt := Nat.lt_of_lt_of_le zbt hxr.size
            have hki := insB_kind hi
            have hgs : Hid (kd L C = 1 ∨ kd L C = 2 → 0 ≤ tg L C ∧ tg L C < n) := fun h => insB_goes hi h
            have hact : Hid (kd L C = 0 → 16 ≤ ag L C ∧ ag L C ≤ 18) := fun h => by rw [h] at hi; simp [insB] at hi; exact hi.1
            have htst : Hid (kd L C = 1 → 0 ≤ ag L C ∧ ag L C ≤ 15) := fun h => by rw [h] at hi; simp [insB] at hi; exact hi.1
            have hN0 : Hid (∀ y j, kd L C = 0 → ag L C = 16 + ((y : Nat) : Int) → natAt (rowI ll y) S = pow2 j → nxt P Q ll L (C, S) = (C + 1, j)) := fun y j h1 h2 h3 => nxt_do h1 h2 h3
            have hN1 : Hid (∀ A T : Nat, kd L C = 1 → ag L C = (A : Int) → tg L C = (T : Int) → nxt P Q ll L (C, S) = ((if A.testBit (atomI P Q S) then C + 1 else T), S)) := fun A T h1 h2 h3 => nxt_test h1 h2 h3
            have hN2 : Hid (∀ T : Nat, kd L C = 2 → tg L C = (T : Int) → nxt P Q ll L (C, S) = (T, S)) := fun T h1 h2 => nxt_jump h1 h2
            clear hi e
            unfold kd at hki hgs hact htst HEnd HGo2 hN0 hN1 hN2
            unfold ag at hact htst hN0 hN1
            unfold tg at hgs hN1 hN2
            generalize nth L (C * 3) = Ki at *
            generalize nth L (C * 3 + 1) = Ai at *
            generalize nth L (C * 3 + 2) = Ti at *
            rcases (show Ki = 0 ∨ Ki = 1 ∨ Ki = 2 ∨ Ki = 3 by omega) with rfl | rfl | rfl | rfl
            · obtain ⟨ha1, ha2⟩ := hact.out rfl
              obtain ⟨y, hy⟩ : ∃ y : Nat, Ai = 16 + (y : Int) := ⟨(Ai - 16).toNat, by omega⟩
              subst hy
              have hy3 : y < 3 := by omega
              have hyl : y < ll.length := by rw [H7.out]; exact hy3
              obtain ⟨ai, ci, kr, hri⟩ := H9.out y hyl
              have hrl := rvB_len (H8.out y hy3)
              have hrs := (rvB_sets (H8.out y hy3)).1
              obtain ⟨j, hj, hje⟩ := HOne.out y S hy3 hc2
              have hjv := hrs.eq S (by omega)
              obtain ⟨b2, o2, p2, q2⟩ := hri
              obtain ⟨rfl, zr2⟩ := p2 (by omega)
              have cr := q2 S (by omega)
              rw [hjv, hje] at cr
              replace kr := hxr.cell' kr zba
              replace cr := hxr.cell' cr zr2
              have zr := Nat.lt_of_lt_of_le zba hxr.size
              have zr3 := Nat.lt_of_lt_of_le zr2 hxr.size
              have hw16 : IntKind.i64.wrap (16 + (y : Int) - 16) = (y : Int) := by rw [IntWalk.i64_in _ (by omega)]; omega
              have hnx := Lib.hid (HRun.out _ _ (hN0.out y j rfl rfl hje))
              have hgo3 := Lib.hid (HGo2.out (by decide))
              have hp16 : pow2 j ≤ 16 := pow2_le j 4 (by omega)
              have hrl5 : S < (rowI ll y).length := by omega
              clear hjv hje hrs hrl p2 q2 hN0 hN1 hN2 HEnd hact htst hgs hgo hbx hxr HRun HGo2
              go_wp2_with fail
              refine (tz_c j _ (by omega) (HTb.out.ext (HX.out.trans (by (repeat (first | exact Ext.refl _ | assumption | refine Ext.alloc ?_ _ | refine Ext.drewN ?_ _ | refine Ext.drew ?_ | refine Ext.setCell ?_ (by simp; try omega) _)))))).mono ?_
              rintro e w4 ⟨rfl, rfl⟩
              go_wp2
              go_roundw
              case rel => exact Lib.hid ⟨k + 1, D + 1, by (have := HD.out; unfold Hid; omega), by omega, by go_num, by (rw [hnx.out] <;> rfl), by (rw [hnx.out] <;> rfl), hgo3.out, HB.out.ext (by (repeat (first | exact Ext.refl _ | assumption | refine Ext.alloc ?_ _ | refine Ext.drewN ?_ _ | refine Ext.drew ?_ | refine Ext.setCell ?_ (by simp; try omega) _))), HX.out.trans (by (repeat (first | exact Ext.refl _ | assumption | refine Ext.alloc ?_ _ | refine Ext.drewN ?_ _ | refine Ext.drew ?_ | refine Ext.setCell ?_ (by simp; try omega) _)))⟩
              case measure => simp [intOf]; omega
            · obtain ⟨ha1, ha2⟩ := htst.out rfl
              obtain ⟨A, rfl⟩ := Int.eq_ofNat_of_zero_le ha1
              obtain ⟨ht1, ht2⟩ := hgs.out (.inl rfl)
              obtain ⟨T, rfl⟩ := Int.eq_ofNat_of_zero_le ht1
              have hnx0 := HRun.out _ _ (hN1.out A T rfl rfl rfl)
              have hgo3 := Lib.hid (HGo2.out (by decide))
              have hA16 : A < 65536 := by omega
              have hat := atomI_le P Q S
              clear hN0 hN1 hN2 HEnd hact htst hgs hgo hbx hxr HRun HGo2
              have CA : Hid (∀ w', Calls Tryd.prog 41 #[modelV s P Q (some ⟨ba, oa, none⟩) ll.length cap, .int .i64 S] w' fun e w'' => e = .returned (.int .i64 (atomI P Q S : Nat)) ∧ Ext w' w'') := fun w' => atom_c s P Q _ S w' b5 b6 (by omega)
              have CH : Hid (∀ w', Calls Tryd.prog 40 #[.int .i64 A, .int .i64 (atomI P Q S : Nat)] w' fun e w'' => e = .returned (.bool (A.testBit (atomI P Q S))) ∧ w' = w'') := fun w' => holds_c A (atomI P Q S) w' (by omega) (by omega)
              generalize atomI P Q S = at_ at *
              cases hbt : A.testBit at_
              all_goals
                rw [hbt] at CH hnx0
                have hnx := Lib.hid hnx0
                clear hnx0 hbt
                go_wp2
                have HBW := Lib.hid (HB.out.ext (w' := wr.alloc (.cells #[.int .i64 1, .int .i64 A, .int .i64 T] 61)) (by (repeat (first | exact Ext.refl _ | assumption | refine Ext.alloc ?_ _ | refine Ext.drewN ?_ _ | refine Ext.drew ?_ | refine Ext.setCell ?_ (by simp; try omega) _))))
                have hc9 : Hid ((wr.alloc (.cells #[.int .i64 1, .int .i64 A, .int .i64 T] 61)).cell? ⟨wr.heap.size, 1, none⟩ = some (.int .i64 (A : Nat))) := by simp [Hid, go_sem]
                go_region_held3 (fun w' => w'.cell? ⟨w.heap.size, 0, none⟩ = some (.int .i64 s) ∧ w'.cell? ⟨w.heap.size, 1, none⟩ = some (.int .i64 P) ∧ w'.cell? ⟨w.heap.size, 2, none⟩ = some (.int .i64 Q) ∧ w'.cell? ⟨w.heap.size, 3, none⟩ = some (.slice (some ⟨ba, oa, none⟩) ll.length cap) ∧ w'.cell? ⟨wr.heap.size, 1, none⟩ = some (.int .i64 (A : Nat)))
                  (first
                    | go_keep
                    | (have E := Ext.trans (Ext.drew (Ext.refl _)) yk; have hk1 := HBW.out.ext E; exact ⟨hk1.1, hk1.2.1, hk1.2.2.1, hk1.2.2.2, E.cell' hc9.out (by simp)⟩))
                  ((first
                    | (go_at_call 41; refine (CA.out _).mono ?_; rintro e wk ⟨rfl, yk⟩)
                    | (go_at_call 40; refine (CH.out _).mono ?_; rintro e wm ⟨rfl, rfl⟩)))
                have hyk := Lib.hid (Ext.trans (by (repeat (first | exact Ext.refl _ | assumption | refine Ext.alloc ?_ _ | refine Ext.drewN ?_ _ | refine Ext.drew ?_ | refine Ext.setCell ?_ (by simp; try omega) _)) : Ext wr _) yk)
                have hxz : wr.heap.size < wk.heap.size := by have := yk.size; simp at this; omega
                have hc2w := (Ext.trans (by (repeat (first | exact Ext.refl _ | assumption | refine Ext.alloc ?_ _ | refine Ext.drewN ?_ _ | refine Ext.drew ?_ | refine Ext.setCell ?_ (by simp; try omega) _)) : Ext (wr.alloc (.cells #[.int .i64 1, .int .i64 A, .int .i64 T] 61)) _) yk).cell' (b := wr.heap.size) (o := 2) (v := .int .i64 (T : Nat)) (by simp [go_sem]) (by simp)
                clear yk
                go_wp2
                go_roundw
                case rel => exact Lib.hid ⟨k + 1, D + 1, by (have := HD.out; unfold Hid; omega), by omega, by go_num, by rw [hnx.out]; rfl, by rw [hnx.out], hgo3.out, HB.out.ext (hyk.out.trans (by (repeat (first | exact Ext.refl _ | assumption | refine Ext.alloc ?_ _ | refine Ext.drewN ?_ _ | refine Ext.drew ?_ | refine Ext.setCell ?_ (by simp; try omega) _)))), HX.out.trans (hyk.out.trans (by (repeat (first | exact Ext.refl _ | assumption | refine Ext.alloc ?_ _ | refine Ext.drewN ?_ _ | refine Ext.drew ?_ | refine Ext.setCell ?_ (by simp; try omega) _))))⟩
                case measure => simp [intOf]; omega
            · obtain ⟨ht1, ht2⟩ := hgs.out (.inr rfl)
              obtain ⟨T, rfl⟩ := Int.eq_ofNat_of_zero_le ht1
              have hnx := Lib.hid (HRun.out _ _ (hN2.out T rfl rfl))
              have hgo3 := Lib.hid (HGo2.out (by decide))
              clear hN0 hN1 hN2 HEnd hact htst hgs hgo hbx hxr HRun HGo2
              go_wp2
              go_roundw
              case rel => exact Lib.hid ⟨k + 1, D + 1, by (have := HD.out; unfold Hid; omega), by omega, by go_num, by (rw [hnx.out] <;> rfl), by (rw [hnx.out] <;> rfl), hgo3.out, HB.out.ext (by (repeat (first | exact Ext.refl _ | assumption | refine Ext.alloc ?_ _ | refine Ext.drewN ?_ _ | refine Ext.drew ?_ | refine Ext.setCell ?_ (by simp; try omega) _))), HX.out.trans (by (repeat (first | exact Ext.refl _ | assumption | refine Ext.alloc ?_ _ | refine Ext.drewN ?_ _ | refine Ext.drew ?_ | refine Ext.setCell ?_ (by simp; try omega) _)))⟩
              case measure => simp [intOf]; omega
            · have hend := Lib.hid (HEnd.out rfl)
              clear hN0 hN1 hN2 HEnd hact htst hgs hgo hbx hxr HRun HGo2
              go_wp2
              go_ret2
              exact ⟨_, _, rfl, hend.out, HX.out.trans (by (repeat (first | exact Ext.refl _ | assumption | refine Ext.alloc ?_ _ | refine Ext.drewN ?_ _ | refine Ext.drew ?_ | refine Ext.setCell ?_ (by simp; try omega) _)))⟩
          · obtain rfl : k = N := by omega
            have hDN : ¬ D ≤ k := by have := HD.out; omega
            have hend : Hid (CrIs s P Q ll n L X (-1) 0) := HF.out _ _ (.inr ⟨HGo.out, rfl, rfl⟩)
            clear hgo hbx hxr
            generalize run P Q ll L X k = cc at *
            go_wp2
            go_ret2
            exact ⟨_, _, rfl, hend.out, HX.out⟩
theorem CrIs.ex (st p q : Int) (ll : List (List Int)) (n : Nat) (L : List Int) (s : Int) : ∃ xy : Int × Int, CrIs st p q ll n L s xy.1 xy.2 := by
  unfold CrIs
  by_cases hb : crB st p q ll n L s = true
  · obtain ⟨x, y, h⟩ := run_ex p q ll L s.toNat (st.toNat * n)
    exact ⟨(x, y), by rw [if_pos hb]; exact h⟩
  · exact ⟨(-1, 0), by rw [if_neg hb]; exact ⟨rfl, rfl⟩⟩
noncomputable def crF (st p q : Int) (ll : List (List Int)) (n : Nat) (L : List Int) (s : Int) : Int × Int := Classical.choose (CrIs.ex st p q ll n L s)
theorem CrIs.eq {st p q : Int} {ll : List (List Int)} {n : Nat} {L : List Int} {s x y : Int} (h : CrIs st p q ll n L s x y) : x = (crF st p q ll n L s).1 ∧ y = (crF st p q ll n L s).2 := h.unique (Classical.choose_spec (CrIs.ex st p q ll n L s))
theorem iCodeRunF_c (st p q : Int) (a : Option Addr) (cap : Nat) (ll : List (List Int)) (b : Option Addr) (n cb : Nat) (L : List Int) (x : Int) (w : World) (hr : RowsAt w a ll) (hlen : ll.length ≤ 4194304) (hm : ∀ i, i < ll.length → (rowI ll i).length ≤ 4194304)
    (hl : FlatAt w b n L) (hln : n ≤ 4194304) (ht : TabW w) :
    Calls Tryd.prog 18 #[modelV st p q a ll.length cap, .slice b n cb, .int .i64 x] w fun e w' => e = .returned (.tuple #[.int .i64 (crF st p q ll n L x).1, .int .i64 (crF st p q ll n L x).2]) ∧ Ext w w' :=
  (iCodeRun_c st p q a cap ll b n cb L x w hr hlen hm hl hln ht).mono fun e w' ⟨u, v, he, hc, hx⟩ => ⟨by rw [he, hc.eq.1, hc.eq.2], hx⟩
end Go.Proofs.YtlaamecfknkmlaaDoor
