/- Merged texts: contracts and plain lemmas (Tq). -/
import Derived.Test.YtlaamecfknkmlaaGreatGu42
import Derived.Test.YtlaamecfknkmlaaGreatGu47
/- Contracts: the rows of a trace in a model. -/
namespace Go.Proofs.YtlaamecfknkmlaaGreat
set_option linter.unusedVariables false
open Go.RowKit Go.Kt

/-- The rows of a trace, as far as so many actions. -/
def trRows (p q : Int) (st : Nat) (ll : List (List Int)) (l : List Int) : Nat → List Int
  | 0 => testL p q (pow2 (nth l 0).toNat) st st
  | k + 1 => thenTo (thenTo (trRows p q st ll l k) (rowI ll ((nth l (2 * k + 1)).toNat - 16)) (trRows p q st ll l k).length) (testL p q (pow2 (nth l (2 * k + 2)).toNat) st st) (thenTo (trRows p q st ll l k) (rowI ll ((nth l (2 * k + 1)).toNat - 16)) (trRows p q st ll l k).length).length
def traceF (st p q : Int) (ll : List (List Int)) (l : List Int) : List Int := if mvB st p q ll && tvB l then trRows p q st.toNat ll l (l.length / 2) else []
theorem trRows_rel {p q : Int} {st : Nat} {ll : List (List Int)} {l : List Int} (hst : st ≤ 31) (hll : ∀ i, i < 3 → Rel st (rowI ll i)) (hv : tvB l = true) : ∀ k, 2 * k < l.length → Rel st (trRows p q st ll l k)
  | 0, _ => Rel.test p q hst
  | k + 1, hk => by
    have h1 := trRows_rel (p := p) (q := q) hst hll hv k (by omega)
    have h2 := tvB_tok hv (show 2 * k + 1 < l.length by omega)
    rw [tokB_odd (by omega)] at h2
    simp only [inR, decide_eq_true_eq] at h2
    exact (h1.thenTo (hll _ (by omega))).thenTo (Rel.test p q hst)
theorem traceF_len (st p q : Int) (ll : List (List Int)) (l : List Int) : (traceF st p q ll l).length ≤ 5 := by
  unfold traceF
  cases hv : mvB st p q ll
  · simp
  · cases hs : tvB l
    · simp
    · obtain ⟨sn, P, Q, rfl, rfl, rfl, b1, b2, b3, b4, b5, b6, b7, b8⟩ := mvB_bounds hv
      have hl := tvB_len hs
      have := (trRows_rel (p := P) (q := Q) (by omega) (fun i hi => rvB_relK (b8 i hi)) hs (l.length / 2) (by omega)).len
      rw [Int.toNat_natCast]
      simp [this, b2]
set_option maxRecDepth 100000 in
set_option maxHeartbeats 400000 in
theorem iTraceRows_c (st p q : Int) (a : Option Addr) (cap : Nat) (ll : List (List Int)) (b : Option Addr) (cb : Nat) (l : List Int) (w : World) (hr : RowsAt w a ll) (hlen : ll.length ≤ 4194304) (hm : ∀ i, i < ll.length → (rowI ll i).length ≤ 4194304)
    (hb : IntsAt w b l) (hlb : l.length ≤ 1048576) :
    Calls Tryz.prog 31 #[modelV st p q a ll.length cap, .slice b l.length cb] w (RetI 3 w (traceF st p q ll l)) := by
  have HR := Lib.hid hr
  have HM := Lib.hid hm
  have HB := Lib.hid hb
  clear hr hm hb
  cases hv : mvB st p q ll
  · have HF : Hid (traceF st p q ll l = []) := by unfold Hid traceF; rw [hv]; rfl
    go_enter Tryz.func31, Tryz.ntmps31
    go_wp2_with fail
    refine (iModelValid_c st p q a cap ll _ (HR.out.ext (by (repeat (first | exact Ext.refl _ | assumption | refine Ext.alloc ?_ _ | refine Ext.drewN ?_ _ | refine Ext.drew ?_)))) hlen HM.out).mono ?_
    rw [hv]
    rintro e w1 ⟨rfl, hx⟩
    have hx2 := Ext.trans (by (repeat (first | exact Ext.refl _ | assumption | refine Ext.alloc ?_ _ | refine Ext.drewN ?_ _ | refine Ext.drew ?_)) : Ext w _) hx
    clear hx
    go_wp2
    go_ret
    exact ⟨_, rfl, by rw [HF.out]; exact OwnI.nil _ _ _, hx2⟩
  · cases hs : tvB l
    · have HF : Hid (traceF st p q ll l = []) := by unfold Hid traceF; rw [hv, hs]; rfl
      go_enter Tryz.func31, Tryz.ntmps31
      go_wp2_with fail
      refine (iModelValid_c st p q a cap ll _ (HR.out.ext (by (repeat (first | exact Ext.refl _ | assumption | refine Ext.alloc ?_ _ | refine Ext.drewN ?_ _ | refine Ext.drew ?_)))) hlen HM.out).mono ?_
      rw [hv]
      rintro e w1 ⟨rfl, hx⟩
      have hx2 := Ext.trans (by (repeat (first | exact Ext.refl _ | assumption | refine Ext.alloc ?_ _ | refine Ext.drewN ?_ _ | refine Ext.drew ?_)) : Ext w _) hx
      clear hx
      go_wp2_with fail
      refine (iTraceValid_c b cb l _ (HB.out.ext (by (repeat (first | exact Ext.refl _ | assumption | refine Ext.alloc ?_ _ | refine Ext.drewN ?_ _ | refine Ext.drew ?_)))) (by omega)).mono ?_
      rw [hs]
      rintro e w' ⟨rfl, rfl⟩
      go_wp2
      go_ret
      exact ⟨_, rfl, by rw [HF.out]; exact OwnI.nil _ _ _, hx2⟩
    · have HV := Lib.hid hv
      have HS := Lib.hid hs
      obtain ⟨s, P, Q, rfl, rfl, rfl, b1, b2, b3, b4, b5, b6, b7, b8⟩ := mvB_bounds hv
      obtain ⟨hl1, hl41⟩ := tvB_len hs
      obtain ⟨m, hm2⟩ : ∃ m, l.length = 2 * m + 1 := ⟨l.length / 2, by omega⟩
      have HF : Hid (traceF s P Q ll l = trRows P Q s ll l m) := by
        unfold Hid traceF; rw [hv, hs, Int.toNat_natCast, show l.length / 2 = m by omega]; rfl
      have H7 := Lib.hid b7
      have H8 := Lib.hid b8
      have HRel : Hid (∀ k, k ≤ m → Rel s (trRows P Q s ll l k)) := fun k hk => trRows_rel (by omega) (fun i hi => rvB_relK (b8 i hi)) hs k (by omega)
      have HT0 : Hid (trRows P Q s ll l 0 = testL P Q (pow2 (nth l 0).toNat) s s) := rfl
      have HTS : Hid (∀ k, trRows P Q s ll l (k + 1) = thenTo (thenTo (trRows P Q s ll l k) (rowI ll ((nth l (2 * k + 1)).toNat - 16)) (trRows P Q s ll l k).length) (testL P Q (pow2 (nth l (2 * k + 2)).toNat) s s) (thenTo (trRows P Q s ll l k) (rowI ll ((nth l (2 * k + 1)).toNat - 16)) (trRows P Q s ll l k).length).length) := fun k => rfl
      have HTok : Hid (∀ k, k < l.length → tokB l k = true) := fun k hk => tvB_tok hs hk
      have hlen3 : 0 < ll.length := by rw [b7]; omega
      have hm4 : l.length ≤ 4194304 := by omega
      have hlt0 : 0 < l.length := by omega
      have HM2 := Lib.hid hm2
      clear hv hs b7 b8 hl1 hm2
      obtain ⟨ba, oa, h8, h9⟩ := HR.out
      obtain ⟨rfl, zba⟩ := h8 hlen3
      have H9 := Lib.hid h9
      obtain ⟨bt, ot, g8, g9⟩ := HB.out
      obtain ⟨rfl, zbt⟩ := g8 (by omega)
      have G9 := Lib.hid g9
      clear h8 h9 g8 g9
      have CT : Hid (∀ (z : Nat) w', z ≤ 3 → Calls Tryz.prog 99 #[modelV s P Q (some ⟨ba, oa, none⟩) ll.length cap, .int .i64 (pow2 z : Nat)] w' (RetI 3 w' (testL P Q (pow2 z) s s))) := fun z w' hz => testRows_c s P Q _ (pow2 z) w' b2 b5 b6 (Nat.lt_of_le_of_lt (pow2_le z 3 hz) (by decide))
      have CN : Hid (∀ (la lb : List Int) w' ak ck al cl, Rel s la → Rel s lb → IntsAt w' ak la → IntsAt w' al lb → Calls Tryz.prog 100 #[.int .i64 s, .slice ak s ck, .slice al s cl] w' (RetI 3 w' (thenTo la lb la.length))) := fun la lb w' ak ck al cl ha hb hi hj => by
        have := iRowsThen_c s ak al ck cl la lb w' hi hj (by rw [ha.len]; omega) (by rw [hb.len]; omega)
        rw [thenF_rel b1 b2 ha hb, ha.len, hb.len] at this; rw [ha.len]; exact this
      have t0 := HTok.out 0 (by omega)
      rw [tokB_even rfl] at t0
      simp only [inR, decide_eq_true_eq] at t0
      have c0 := G9.out 0 (by omega)
      obtain ⟨z, hz⟩ := Int.eq_ofNat_of_zero_le t0.1
      have hz3 : z ≤ 3 := by omega
      rw [hz, Nat.add_zero] at c0
      have HT00 : Hid (trRows P Q s ll l 0 = testL P Q (pow2 z) s s) := by rw [HT0.out, hz, Int.toNat_natCast]; rfl
      have hpc := pow2_cast z
      have hp8 : pow2 z ≤ 8 := pow2_le z 3 hz3
      have hwz : IntKind.i64.wrap ((pow2 z : Nat) : Int) = ((pow2 z : Nat) : Int) := IntWalk.i64_in _ (by omega)
      have C0 := Lib.hid c0
      clear t0 hz HT0
      go_enter Tryz.func31, Tryz.ntmps31
      go_wp2_with fail
      refine (iModelValid_c _ _ _ _ cap ll _ (HR.out.ext (by (repeat (first | exact Ext.refl _ | assumption | refine Ext.alloc ?_ _ | refine Ext.drewN ?_ _ | refine Ext.drew ?_)))) hlen HM.out).mono ?_
      rw [HV.out]
      rintro e w1 ⟨rfl, hx⟩
      have hx2 := Lib.hid (Ext.trans (by (repeat (first | exact Ext.refl _ | assumption | refine Ext.alloc ?_ _ | refine Ext.drewN ?_ _ | refine Ext.drew ?_)) : Ext w _) hx)
      have hb1 := (box_of w s P Q (.slice (some ⟨ba, oa, none⟩) ll.length cap)).ext hx
      clear c0
      replace HB := Lib.hid hb1
      have zb := hb1.lt
      obtain ⟨k0, k1, k2, k3⟩ := hb1.out
      have HBT : Hid (IntsAt w (some ⟨bt, ot, none⟩) l) := ⟨bt, ot, fun _ => ⟨rfl, zbt⟩, G9.out⟩
      clear hx hb1
      go_wp2_with fail
      refine (iTraceValid_c _ cb l _ (HBT.out.ext hx2.out) hm4).mono ?_
      rw [HS.out]
      rintro e w' ⟨rfl, rfl⟩
      have c0 := hx2.out.cell' C0.out zbt
      have HC0 := Lib.hid c0
      have zt1 := Nat.lt_of_lt_of_le zbt hx2.out.size
      go_wp2
      go_region_held3 (fun w' => w'.cell? ⟨w.heap.size, 0, none⟩ = some (.int .i64 s) ∧ w'.cell? ⟨w.heap.size, 1, none⟩ = some (.int .i64 P) ∧ w'.cell? ⟨w.heap.size, 2, none⟩ = some (.int .i64 Q) ∧ w'.cell? ⟨w.heap.size, 3, none⟩ = some (.slice (some ⟨ba, oa, none⟩) ll.length cap) ∧ w'.cell? ⟨bt, ot, none⟩ = some (.int .i64 z))
        (first
          | go_keep
          | (have E := Ext.trans (Ext.drew (Ext.refl _)) yk; have hk1 := HB.out.ext E; exact ⟨hk1.1, hk1.2.1, hk1.2.2.1, hk1.2.2.2, E.cell' HC0.out zt1⟩))
        ((go_at_call 99; refine (CT.out z _ hz3).mono ?_; rintro e wk ⟨vk, rfl, ok, yk⟩))
      have hxk := Lib.hid (hx2.out.trans (Ext.trans (by (repeat (first | exact Ext.refl _ | assumption | refine Ext.alloc ?_ _ | refine Ext.drewN ?_ _ | refine Ext.drew ?_))) yk))
      have HBk := Lib.hid (HB.out.ext (Ext.trans (by (repeat (first | exact Ext.refl _ | assumption | refine Ext.alloc ?_ _ | refine Ext.drewN ?_ _ | refine Ext.drew ?_))) yk))
      have OK := Lib.hid (ok.mono (B' := w.heap.size) (by have := hx2.out.size; first | (simp at *; omega) | omega))
      rw [← HT00.out] at OK
      clear ok yk k0 k1 k2 k3 zb c0 HC0 zt1 HB hx2 C0
      go_wp2
      go_loopw [5, 6] (fun v i wr => Hid (∃ k X : Nat, k ≤ m ∧ Hid (X = 2 * k + 1) ∧ i = .int .i64 X ∧ OwnI wr w.heap.size 3 v (trRows P Q s ll l k) ∧ BoxM wr w.heap.size s P Q (.slice (some ⟨ba, oa, none⟩) ll.length cap) ∧ Ext w wr)) (fun _ i _ => l.length + 5 - (intOf i).toNat)
      case atStart => exact Lib.hid ⟨0, 1, Nat.zero_le _, rfl, rfl, OK.out, HBk.out, hxk.out⟩
      case round =>
        obtain ⟨k, X, hk, HXk, rfl, ho, hbx, hxr⟩ := hrel.out
        clear hrel OK HBk hxk
        have HB := Lib.hid hbx
        have HX := Lib.hid hxr
        obtain ⟨k0, k1, k2, k3⟩ := hbx.out
        have zb := hbx.lt
        by_cases hlt : k < m
        · have hXl : X + 1 < l.length := by have := HM2.out; have := HXk.out; omega
          have hXl2 : X < l.length := by omega
          have hXX : ((X : Int) + 1) < (l.length : Int) := by omega
          have t1 := HTok.out X (by omega)
          rw [tokB_odd (by have := HXk.out; omega)] at t1
          have t2 := HTok.out (X + 1) hXl
          rw [tokB_even (by have := HXk.out; omega)] at t2
          simp only [inR, decide_eq_true_eq] at t1 t2
          have c1 := G9.out X (by omega)
          have c2 := G9.out (X + 1) hXl
          obtain ⟨y, hy⟩ : ∃ y : Nat, nth l X = 16 + (y : Int) := ⟨(nth l X - 16).toNat, by omega⟩
          have hy3 : y < 3 := by omega
          obtain ⟨z, hz⟩ := Int.eq_ofNat_of_zero_le t2.1
          have hz3 : z ≤ 3 := by omega
          rw [hy] at c1
          rw [hz] at c2
          have hyl : y < ll.length := by rw [H7.out]; exact hy3
          obtain ⟨ai, ci, kr, hri⟩ := H9.out y hyl
          have hr1 := Lib.hid (HRel.out k (by omega))
          have hr2 : Hid (Rel s (rowI ll y)) := rvB_relK (H8.out y hy3)
          have hr3 := Lib.hid (hr1.out.thenTo hr2.out)
          have hr4 : Hid (Rel s (testL P Q (pow2 z) s s)) := Rel.test P Q (by omega)
          have hS1 : Hid (trRows P Q s ll l (k + 1) = thenTo (thenTo (trRows P Q s ll l k) (rowI ll y) (trRows P Q s ll l k).length) (testL P Q (pow2 z) s s) (thenTo (trRows P Q s ll l k) (rowI ll y) (trRows P Q s ll l k).length).length) := by
            have e := HTS.out k
            rw [show 2 * k + 1 = X from HXk.out.symm, show 2 * k + 2 = X + 1 by have := HXk.out; omega, hy, hz, show (16 + (y : Int)).toNat - 16 = y by omega, Int.toNat_natCast] at e
            exact e
          have CTz : Hid (∀ w', Calls Tryz.prog 99 #[modelV s P Q (some ⟨ba, oa, none⟩) ll.length cap, .int .i64 (pow2 z : Nat)] w' (RetI 3 w' (testL P Q (pow2 z) s s))) := fun w' => CT.out z w' hz3
          rw [hr2.out.len] at kr
          obtain ⟨a1, cc1, rfl, i1⟩ := ho.shape
          rw [hr1.out.len] at ho ⊢
          have I1 := Lib.hid i1
          have IR := Lib.hid (hri.ext hxr)
          have zt := Nat.lt_of_lt_of_le zbt hxr.size
          have zr := Nat.lt_of_lt_of_le zba hxr.size
          replace c1 := hxr.cell' c1 zbt
          replace c2 := hxr.cell' c2 zbt
          replace kr := hxr.cell' kr zba
          have C1 := Lib.hid c1
          have C2 := Lib.hid c2
          have KR := Lib.hid kr
          clear t1 t2 hy hz ho hbx i1 hri hxr c2
          generalize trRows P Q s ll l k = la at *
          generalize rowI ll y = lb at *
          generalize testL P Q (pow2 z) s s = lc at *
          have hw16 : IntKind.i64.wrap (16 + (y : Int) - 16) = (y : Int) := by rw [IntWalk.i64_in _ (by omega)]; omega
          have hpc := pow2_cast z
          have hp8 : pow2 z ≤ 8 := pow2_le z 3 hz3
          have hwz : IntKind.i64.wrap ((pow2 z : Nat) : Int) = ((pow2 z : Nat) : Int) := IntWalk.i64_in _ (by omega)
          go_wp2
          go_region_held3 (fun w' => w'.cell? ⟨w.heap.size, 0, none⟩ = some (.int .i64 s) ∧ w'.cell? ⟨w.heap.size, 1, none⟩ = some (.int .i64 P) ∧ w'.cell? ⟨w.heap.size, 2, none⟩ = some (.int .i64 Q) ∧ w'.cell? ⟨w.heap.size, 3, none⟩ = some (.slice (some ⟨ba, oa, none⟩) ll.length cap) ∧ w'.cell? ⟨bt, ot + X, none⟩ = some (.int .i64 (16 + (y : Int))) ∧ w'.cell? ⟨ba, oa + y, none⟩ = some (.slice ai s ci))
            (first
              | go_keep
              | (have E := Ext.trans (Ext.drew (Ext.refl _)) yk; have hk1 := HB.out.ext E; exact ⟨hk1.1, hk1.2.1, hk1.2.2.1, hk1.2.2.2, E.cell' C1.out zt, E.cell' KR.out zr⟩))
            ((go_at_call 100; refine (CN.out la lb _ a1 cc1 ai ci hr1.out hr2.out (I1.out.ext (by (repeat (first | exact Ext.refl _ | assumption | refine Ext.alloc ?_ _ | refine Ext.drewN ?_ _ | refine Ext.drew ?_)))) (IR.out.ext (by (repeat (first | exact Ext.refl _ | assumption | refine Ext.alloc ?_ _ | refine Ext.drewN ?_ _ | refine Ext.drew ?_))))).mono ?_; rintro e wk ⟨vk, rfl, ok, yk⟩))
          have HX2 := Lib.hid (HX.out.trans (Ext.trans (by (repeat (first | exact Ext.refl _ | assumption | refine Ext.alloc ?_ _ | refine Ext.drewN ?_ _ | refine Ext.drew ?_))) yk))
          have HB2 := Lib.hid (HB.out.ext (Ext.trans (by (repeat (first | exact Ext.refl _ | assumption | refine Ext.alloc ?_ _ | refine Ext.drewN ?_ _ | refine Ext.drew ?_))) yk))
          have c2 := (Ext.trans (by (repeat (first | exact Ext.refl _ | assumption | refine Ext.alloc ?_ _ | refine Ext.drewN ?_ _ | refine Ext.drew ?_))) yk : Ext wr wk).cell' C2.out zt
          obtain ⟨a2, cc2, rfl, i2⟩ := ok.shape
          rw [hr3.out.len] at ok ⊢
          have I2 := Lib.hid i2
          have zt2 : bt < wk.heap.size := Nat.lt_of_lt_of_le zbt HX2.out.size
          clear ok yk i2 k0 k1 k2 k3 zb HB C2 c1 kr
          replace HB := HB2
          have C2 := Lib.hid c2
          obtain ⟨k0, k1, k2, k3⟩ := HB2.out.out
          have zb := HB2.out.lt
          obtain ⟨wo, hwo⟩ : ∃ wo : World, wo = wk := ⟨_, rfl⟩
          subst hwo
          have hwx : IntKind.i64.wrap ((X : Int) + 1) = (X : Int) + 1 := IntWalk.i64_in _ (by omega)
          have hx0 : 0 ≤ (X : Int) + 1 := by omega
          have hxn : ((X : Int) + 1).toNat = X + 1 := by omega
          go_wp2
          go_region_held3 (fun w' => w'.cell? ⟨w.heap.size, 0, none⟩ = some (.int .i64 s) ∧ w'.cell? ⟨w.heap.size, 1, none⟩ = some (.int .i64 P) ∧ w'.cell? ⟨w.heap.size, 2, none⟩ = some (.int .i64 Q) ∧ w'.cell? ⟨w.heap.size, 3, none⟩ = some (.slice (some ⟨ba, oa, none⟩) ll.length cap) ∧ w'.cell? ⟨bt, ot + (X + 1), none⟩ = some (.int .i64 z))
            (first
              | go_keep
              | (have E := Ext.trans (Ext.drew (Ext.refl _)) yk; have hk1 := HB.out.ext E; exact ⟨hk1.1, hk1.2.1, hk1.2.2.1, hk1.2.2.2, E.cell' C2.out zt2⟩)
              | (have E := Ext.trans (Ext.trans (Ext.drew (Ext.refl _)) yk) yl; have hk1 := HB.out.ext E; exact ⟨hk1.1, hk1.2.1, hk1.2.2.1, hk1.2.2.2, E.cell' C2.out zt2⟩))
            ((first
              | (go_at_call 99; refine (CTz.out _).mono ?_; rintro e wk ⟨vk, rfl, ok, yk⟩; obtain ⟨ak, ck, rfl, ik⟩ := ok.shape; rw [hr4.out.len] at ok ⊢; have hz7 := yk.size)
              | (go_at_call 100; refine (CN.out _ lc _ a2 cc2 ak ck hr3.out hr4.out (I2.out.ext (Ext.trans (by (repeat (first | exact Ext.refl _ | assumption | refine Ext.alloc ?_ _ | refine Ext.drewN ?_ _ | refine Ext.drew ?_))) yk)) ik).mono ?_; rintro e wl ⟨vl, rfl, ol, yl⟩)))
          have HX3 := Lib.hid (HX2.out.trans (Ext.trans (Ext.trans (by (repeat (first | exact Ext.refl _ | assumption | refine Ext.alloc ?_ _ | refine Ext.drewN ?_ _ | refine Ext.drew ?_))) yk) yl))
          have HB3 := Lib.hid (HB.out.ext (Ext.trans (Ext.trans (by (repeat (first | exact Ext.refl _ | assumption | refine Ext.alloc ?_ _ | refine Ext.drewN ?_ _ | refine Ext.drew ?_))) yk) yl))
          have OL := Lib.hid (ol.mono (B' := w.heap.size) (Nat.le_trans HX2.out.size (by first | (simp at hz7; omega) | omega)))
          clear ok yk ol yl ik hz7
          go_wp2
          go_roundw
          case rel => exact Lib.hid ⟨k + 1, X + 2, by omega, by have := HXk.out; unfold Hid; omega, by go_num, by rw [hS1.out]; exact OL.out, HB3.out, HX3.out⟩
          case measure => simp [intOf]; omega
        · have hkm : k = m := by omega
          have hXX : ¬ ((X : Int) + 1 < (l.length : Int)) := by have := HM2.out; have := HXk.out; omega
          have hXl : ¬ (X < l.length) := by have := HM2.out; have := HXk.out; omega
          have hX41 : X ≤ 41 := by have := HM2.out; have := HXk.out; omega
          subst hkm
          have HO := Lib.hid ho
          clear ho hbx hxr
          go_wp2
          go_ret
          exact ⟨_, rfl, by rw [HF.out]; exact HO.out, HX.out⟩
set_option maxRecDepth 100000 in
set_option maxHeartbeats 400000 in
theorem sTraceRows_c (st p q : Int) (a : Option Addr) (cap : Nat) (ll : List (List Int)) (b : Option Addr) (cb : Nat) (l : List Int) (w : World) (hr : RowsAt w a ll) (hlen : ll.length ≤ 4194304) (hm : ∀ i, i < ll.length → (rowI ll i).length ≤ 4194304)
    (hb : IntsAt w b l) (hlb : l.length ≤ 1048576) :
    Calls Tryz.prog 33 #[modelV st p q a ll.length cap, .slice b l.length cb] w (RetI 3 w (traceF st p q ll l)) := by
  have HR := Lib.hid hr
  have HM := Lib.hid hm
  have HB := Lib.hid hb
  clear hr hm hb
  cases hv : mvB st p q ll
  · have HF : Hid (traceF st p q ll l = []) := by unfold Hid traceF; rw [hv]; rfl
    go_enter Tryz.func33, Tryz.ntmps33
    go_wp2_with fail
    refine (sModelValid_c st p q a cap ll _ (HR.out.ext (by (repeat (first | exact Ext.refl _ | assumption | refine Ext.alloc ?_ _ | refine Ext.drewN ?_ _ | refine Ext.drew ?_)))) hlen HM.out).mono ?_
    rw [hv]
    rintro e w1 ⟨rfl, hx⟩
    have hx2 := Ext.trans (by (repeat (first | exact Ext.refl _ | assumption | refine Ext.alloc ?_ _ | refine Ext.drewN ?_ _ | refine Ext.drew ?_)) : Ext w _) hx
    clear hx
    go_wp2
    go_ret
    exact ⟨_, rfl, by rw [HF.out]; exact (OwnI.empty _ _).mono hx2.size, hx2.trans (by (repeat (first | exact Ext.refl _ | assumption | refine Ext.alloc ?_ _ | refine Ext.drewN ?_ _ | refine Ext.drew ?_)))⟩
  · cases hs : tvB l
    · have HF : Hid (traceF st p q ll l = []) := by unfold Hid traceF; rw [hv, hs]; rfl
      go_enter Tryz.func33, Tryz.ntmps33
      go_wp2_with fail
      refine (sModelValid_c st p q a cap ll _ (HR.out.ext (by (repeat (first | exact Ext.refl _ | assumption | refine Ext.alloc ?_ _ | refine Ext.drewN ?_ _ | refine Ext.drew ?_)))) hlen HM.out).mono ?_
      rw [hv]
      rintro e w1 ⟨rfl, hx⟩
      have hx2 := Ext.trans (by (repeat (first | exact Ext.refl _ | assumption | refine Ext.alloc ?_ _ | refine Ext.drewN ?_ _ | refine Ext.drew ?_)) : Ext w _) hx
      clear hx
      go_wp2_with fail
      refine (sTraceValid_c b cb l _ (HB.out.ext (by (repeat (first | exact Ext.refl _ | assumption | refine Ext.alloc ?_ _ | refine Ext.drewN ?_ _ | refine Ext.drew ?_)))) (by omega)).mono ?_
      rw [hs]
      rintro e w' ⟨rfl, rfl⟩
      go_wp2
      go_ret
      exact ⟨_, rfl, by rw [HF.out]; exact (OwnI.empty _ _).mono hx2.size, hx2.trans (by (repeat (first | exact Ext.refl _ | assumption | refine Ext.alloc ?_ _ | refine Ext.drewN ?_ _ | refine Ext.drew ?_)))⟩
    · have HV := Lib.hid hv
      have HS := Lib.hid hs
      obtain ⟨s, P, Q, rfl, rfl, rfl, b1, b2, b3, b4, b5, b6, b7, b8⟩ := mvB_bounds hv
      obtain ⟨hl1, hl41⟩ := tvB_len hs
      obtain ⟨m, hm2⟩ : ∃ m, l.length = 2 * m + 1 := ⟨l.length / 2, by omega⟩
      have HF : Hid (traceF s P Q ll l = trRows P Q s ll l m) := by
        unfold Hid traceF; rw [hv, hs, Int.toNat_natCast, show l.length / 2 = m by omega]; rfl
      have H7 := Lib.hid b7
      have H8 := Lib.hid b8
      have HRel : Hid (∀ k, k ≤ m → Rel s (trRows P Q s ll l k)) := fun k hk => trRows_rel (by omega) (fun i hi => rvB_relK (b8 i hi)) hs k (by omega)
      have HT0 : Hid (trRows P Q s ll l 0 = testL P Q (pow2 (nth l 0).toNat) s s) := rfl
      have HTS : Hid (∀ k, trRows P Q s ll l (k + 1) = thenTo (thenTo (trRows P Q s ll l k) (rowI ll ((nth l (2 * k + 1)).toNat - 16)) (trRows P Q s ll l k).length) (testL P Q (pow2 (nth l (2 * k + 2)).toNat) s s) (thenTo (trRows P Q s ll l k) (rowI ll ((nth l (2 * k + 1)).toNat - 16)) (trRows P Q s ll l k).length).length) := fun k => rfl
      have HTok : Hid (∀ k, k < l.length → tokB l k = true) := fun k hk => tvB_tok hs hk
      have hlen3 : 0 < ll.length := by rw [b7]; omega
      have hm4 : l.length ≤ 4194304 := by omega
      have hlt0 : 0 < l.length := by omega
      have HM2 := Lib.hid hm2
      clear hv hs b7 b8 hl1 hm2
      obtain ⟨ba, oa, h8, h9⟩ := HR.out
      obtain ⟨rfl, zba⟩ := h8 hlen3
      have H9 := Lib.hid h9
      obtain ⟨bt, ot, g8, g9⟩ := HB.out
      obtain ⟨rfl, zbt⟩ := g8 (by omega)
      have G9 := Lib.hid g9
      clear h8 h9 g8 g9
      have CT : Hid (∀ (z : Nat) (w' : World) (g : Nat), z ≤ 3 → Ext w w' → w'.cell? ⟨g, 0, none⟩ = some (.int .i64 (pow2 z : Nat)) → Calls Tryz.prog 85 #[modelV s P Q (some ⟨ba, oa, none⟩) ll.length cap, .slice (some ⟨g, 0, none⟩) 1 1] w' (RetI 3 w' (testL P Q (pow2 z) s s))) := fun z w' g hz hx hc => by
        have h15 : pow2 z ≤ 8 := pow2_le z 3 hz
        have := l7Rows_c s P Q (some ⟨ba, oa, none⟩) cap ll b1 b2 b5 b6 H7 HV H8 (.leaf ((pow2 z : Nat) : Int)) ⟨by omega, by omega⟩ g 0 1 w' (HR.out.ext hx) ⟨g, 0, fun _ => ⟨rfl, lt_of_cell hc⟩, fun i hi => by
          obtain rfl : i = 0 := by simpa [Kt.words] using hi
          exact hc⟩ (by simp [Kt.words]) (by simp [Kt.words])
        have e : (Kt.leaf ((pow2 z : Nat) : Int)).rows P Q s ll = testL P Q (pow2 z) s s := by simp only [Kt.rows]; rw [if_pos (by omega), Int.toNat_natCast]
        rw [e] at this; exact this
      have CN : Hid (∀ (la lb : List Int) w' ak ck al cl, Rel s la → Rel s lb → IntsAt w' ak la → IntsAt w' al lb → Calls Tryz.prog 102 #[.int .i64 s, .slice ak s ck, .slice al s cl] w' (RetI 3 w' (thenTo la lb la.length))) := fun la lb w' ak ck al cl ha hb hi hj => by
        have := sRowsThen_c s ak al ck cl la lb w' hi hj (by rw [ha.len]; omega) (by rw [hb.len]; omega)
        rw [thenF_rel b1 b2 ha hb, ha.len, hb.len] at this; rw [ha.len]; exact this
      have t0 := HTok.out 0 (by omega)
      rw [tokB_even rfl] at t0
      simp only [inR, decide_eq_true_eq] at t0
      have c0 := G9.out 0 (by omega)
      obtain ⟨z, hz⟩ := Int.eq_ofNat_of_zero_le t0.1
      have hz3 : z ≤ 3 := by omega
      rw [hz, Nat.add_zero] at c0
      have HT00 : Hid (trRows P Q s ll l 0 = testL P Q (pow2 z) s s) := by rw [HT0.out, hz, Int.toNat_natCast]; rfl
      have hpc := pow2_cast z
      have hp8 : pow2 z ≤ 8 := pow2_le z 3 hz3
      have hwz : IntKind.i64.wrap ((pow2 z : Nat) : Int) = ((pow2 z : Nat) : Int) := IntWalk.i64_in _ (by omega)
      have C0 := Lib.hid c0
      clear t0 hz HT0
      go_enter Tryz.func33, Tryz.ntmps33
      go_wp2_with fail
      refine (sModelValid_c _ _ _ _ cap ll _ (HR.out.ext (by (repeat (first | exact Ext.refl _ | assumption | refine Ext.alloc ?_ _ | refine Ext.drewN ?_ _ | refine Ext.drew ?_)))) hlen HM.out).mono ?_
      rw [HV.out]
      rintro e w1 ⟨rfl, hx⟩
      have hx2 := Lib.hid (Ext.trans (by (repeat (first | exact Ext.refl _ | assumption | refine Ext.alloc ?_ _ | refine Ext.drewN ?_ _ | refine Ext.drew ?_)) : Ext w _) hx)
      have hb1 := (box_of w s P Q (.slice (some ⟨ba, oa, none⟩) ll.length cap)).ext hx
      clear c0
      replace HB := Lib.hid hb1
      have zb := hb1.lt
      obtain ⟨k0, k1, k2, k3⟩ := hb1.out
      have HBT : Hid (IntsAt w (some ⟨bt, ot, none⟩) l) := ⟨bt, ot, fun _ => ⟨rfl, zbt⟩, G9.out⟩
      clear hx hb1
      go_wp2_with fail
      refine (sTraceValid_c _ cb l _ (HBT.out.ext hx2.out) hm4).mono ?_
      rw [HS.out]
      rintro e w' ⟨rfl, rfl⟩
      have c0 := hx2.out.cell' C0.out zbt
      have HC0 := Lib.hid c0
      have zt1 := Nat.lt_of_lt_of_le zbt hx2.out.size
      go_wp2
      go_region_held3 (fun w' => w'.cell? ⟨w.heap.size, 0, none⟩ = some (.int .i64 s) ∧ w'.cell? ⟨w.heap.size, 1, none⟩ = some (.int .i64 P) ∧ w'.cell? ⟨w.heap.size, 2, none⟩ = some (.int .i64 Q) ∧ w'.cell? ⟨w.heap.size, 3, none⟩ = some (.slice (some ⟨ba, oa, none⟩) ll.length cap) ∧ w'.cell? ⟨bt, ot, none⟩ = some (.int .i64 z))
        (first
          | go_keep
          | (have E := Ext.trans (Ext.alloc (Ext.drew (Ext.refl _)) _) yk; have hk1 := HB.out.ext E; exact ⟨hk1.1, hk1.2.1, hk1.2.2.1, hk1.2.2.2, E.cell' HC0.out zt1⟩))
        ((go_at_call 85; refine (CT.out z _ _ hz3 (hx2.out.trans (by (repeat (first | exact Ext.refl _ | assumption | refine Ext.alloc ?_ _ | refine Ext.drewN ?_ _ | refine Ext.drew ?_)))) (by simp [go_sem])).mono ?_; rintro e wk ⟨vk, rfl, ok, yk⟩))
      have hxk := Lib.hid (hx2.out.trans (Ext.trans (by (repeat (first | exact Ext.refl _ | assumption | refine Ext.alloc ?_ _ | refine Ext.drewN ?_ _ | refine Ext.drew ?_))) yk))
      have HBk := Lib.hid (HB.out.ext (Ext.trans (by (repeat (first | exact Ext.refl _ | assumption | refine Ext.alloc ?_ _ | refine Ext.drewN ?_ _ | refine Ext.drew ?_))) yk))
      have OK := Lib.hid (ok.mono (B' := w.heap.size) (by have := hx2.out.size; first | (simp at *; omega) | omega))
      rw [← HT00.out] at OK
      clear ok yk k0 k1 k2 k3 zb c0 HC0 zt1 HB hx2 C0
      go_wp2
      go_loopw [5, 6] (fun v i wr => Hid (∃ k X : Nat, k ≤ m ∧ Hid (X = 2 * k + 1) ∧ i = .int .i64 X ∧ OwnI wr w.heap.size 3 v (trRows P Q s ll l k) ∧ BoxM wr w.heap.size s P Q (.slice (some ⟨ba, oa, none⟩) ll.length cap) ∧ Ext w wr)) (fun _ i _ => l.length + 5 - (intOf i).toNat)
      case atStart => exact Lib.hid ⟨0, 1, Nat.zero_le _, rfl, rfl, OK.out, HBk.out, hxk.out⟩
      case round =>
        obtain ⟨k, X, hk, HXk, rfl, ho, hbx, hxr⟩ := hrel.out
        clear hrel OK HBk hxk
        have HB := Lib.hid hbx
        have HX := Lib.hid hxr
        obtain ⟨k0, k1, k2, k3⟩ := hbx.out
        have zb := hbx.lt
        by_cases hlt : k < m
        · have hXl : X + 1 < l.length := by have := HM2.out; have := HXk.out; omega
          have hXl2 : X < l.length := by omega
          have hXX : ((X : Int) + 1) < (l.length : Int) := by omega
          have t1 := HTok.out X (by omega)
          rw [tokB_odd (by have := HXk.out; omega)] at t1
          have t2 := HTok.out (X + 1) hXl
          rw [tokB_even (by have := HXk.out; omega)] at t2
          simp only [inR, decide_eq_true_eq] at t1 t2
          have c1 := G9.out X (by omega)
          have c2 := G9.out (X + 1) hXl
          obtain ⟨y, hy⟩ : ∃ y : Nat, nth l X = 16 + (y : Int) := ⟨(nth l X - 16).toNat, by omega⟩
          have hy3 : y < 3 := by omega
          obtain ⟨z, hz⟩ := Int.eq_ofNat_of_zero_le t2.1
          have hz3 : z ≤ 3 := by omega
          rw [hy] at c1
          rw [hz] at c2
          have hyl : y < ll.length := by rw [H7.out]; exact hy3
          obtain ⟨ai, ci, kr, hri⟩ := H9.out y hyl
          have hr1 := Lib.hid (HRel.out k (by omega))
          have hr2 : Hid (Rel s (rowI ll y)) := rvB_relK (H8.out y hy3)
          have hr3 := Lib.hid (hr1.out.thenTo hr2.out)
          have hr4 : Hid (Rel s (testL P Q (pow2 z) s s)) := Rel.test P Q (by omega)
          have hS1 : Hid (trRows P Q s ll l (k + 1) = thenTo (thenTo (trRows P Q s ll l k) (rowI ll y) (trRows P Q s ll l k).length) (testL P Q (pow2 z) s s) (thenTo (trRows P Q s ll l k) (rowI ll y) (trRows P Q s ll l k).length).length) := by
            have e := HTS.out k
            rw [show 2 * k + 1 = X from HXk.out.symm, show 2 * k + 2 = X + 1 by have := HXk.out; omega, hy, hz, show (16 + (y : Int)).toNat - 16 = y by omega, Int.toNat_natCast] at e
            exact e
          have CTz : Hid (∀ (w' : World) (g : Nat), Ext w w' → w'.cell? ⟨g, 0, none⟩ = some (.int .i64 (pow2 z : Nat)) → Calls Tryz.prog 85 #[modelV s P Q (some ⟨ba, oa, none⟩) ll.length cap, .slice (some ⟨g, 0, none⟩) 1 1] w' (RetI 3 w' (testL P Q (pow2 z) s s))) := fun w' g hx hc => CT.out z w' g hz3 hx hc
          rw [hr2.out.len] at kr
          obtain ⟨a1, cc1, rfl, i1⟩ := ho.shape
          rw [hr1.out.len] at ho ⊢
          have I1 := Lib.hid i1
          have IR := Lib.hid (hri.ext hxr)
          have zt := Nat.lt_of_lt_of_le zbt hxr.size
          have zr := Nat.lt_of_lt_of_le zba hxr.size
          replace c1 := hxr.cell' c1 zbt
          replace c2 := hxr.cell' c2 zbt
          replace kr := hxr.cell' kr zba
          have C1 := Lib.hid c1
          have C2 := Lib.hid c2
          have KR := Lib.hid kr
          clear t1 t2 hy hz ho hbx i1 hri hxr c2
          generalize trRows P Q s ll l k = la at *
          generalize rowI ll y = lb at *
          generalize testL P Q (pow2 z) s s = lc at *
          have hw16 : IntKind.i64.wrap (16 + (y : Int) - 16) = (y : Int) := by rw [IntWalk.i64_in _ (by omega)]; omega
          have hpc := pow2_cast z
          have hp8 : pow2 z ≤ 8 := pow2_le z 3 hz3
          have hwz : IntKind.i64.wrap ((pow2 z : Nat) : Int) = ((pow2 z : Nat) : Int) := IntWalk.i64_in _ (by omega)
          go_wp2
          go_region_held3 (fun w' => w'.cell? ⟨w.heap.size, 0, none⟩ = some (.int .i64 s) ∧ w'.cell? ⟨w.heap.size, 1, none⟩ = some (.int .i64 P) ∧ w'.cell? ⟨w.heap.size, 2, none⟩ = some (.int .i64 Q) ∧ w'.cell? ⟨w.heap.size, 3, none⟩ = some (.slice (some ⟨ba, oa, none⟩) ll.length cap) ∧ w'.cell? ⟨bt, ot + X, none⟩ = some (.int .i64 (16 + (y : Int))) ∧ w'.cell? ⟨ba, oa + y, none⟩ = some (.slice ai s ci))
            (first
              | go_keep
              | (have E := Ext.trans (Ext.drew (Ext.refl _)) yk; have hk1 := HB.out.ext E; exact ⟨hk1.1, hk1.2.1, hk1.2.2.1, hk1.2.2.2, E.cell' C1.out zt, E.cell' KR.out zr⟩))
            ((go_at_call 102; refine (CN.out la lb _ a1 cc1 ai ci hr1.out hr2.out (I1.out.ext (by (repeat (first | exact Ext.refl _ | assumption | refine Ext.alloc ?_ _ | refine Ext.drewN ?_ _ | refine Ext.drew ?_)))) (IR.out.ext (by (repeat (first | exact Ext.refl _ | assumption | refine Ext.alloc ?_ _ | refine Ext.drewN ?_ _ | refine Ext.drew ?_))))).mono ?_; rintro e wk ⟨vk, rfl, ok, yk⟩))
          have HX2 := Lib.hid (HX.out.trans (Ext.trans (by (repeat (first | exact Ext.refl _ | assumption | refine Ext.alloc ?_ _ | refine Ext.drewN ?_ _ | refine Ext.drew ?_))) yk))
          have HB2 := Lib.hid (HB.out.ext (Ext.trans (by (repeat (first | exact Ext.refl _ | assumption | refine Ext.alloc ?_ _ | refine Ext.drewN ?_ _ | refine Ext.drew ?_))) yk))
          have c2 := (Ext.trans (by (repeat (first | exact Ext.refl _ | assumption | refine Ext.alloc ?_ _ | refine Ext.drewN ?_ _ | refine Ext.drew ?_))) yk : Ext wr wk).cell' C2.out zt
          obtain ⟨a2, cc2, rfl, i2⟩ := ok.shape
          rw [hr3.out.len] at ok ⊢
          have I2 := Lib.hid i2
          have zt2 : bt < wk.heap.size := Nat.lt_of_lt_of_le zbt HX2.out.size
          clear ok yk i2 k0 k1 k2 k3 zb HB C2 c1 kr
          replace HB := HB2
          have C2 := Lib.hid c2
          obtain ⟨k0, k1, k2, k3⟩ := HB2.out.out
          have zb := HB2.out.lt
          obtain ⟨wo, hwo⟩ : ∃ wo : World, wo = wk := ⟨_, rfl⟩
          subst hwo
          have hwx : IntKind.i64.wrap ((X : Int) + 1) = (X : Int) + 1 := IntWalk.i64_in _ (by omega)
          have hx0 : 0 ≤ (X : Int) + 1 := by omega
          have hxn : ((X : Int) + 1).toNat = X + 1 := by omega
          go_wp2
          go_region_held3 (fun w' => w'.cell? ⟨w.heap.size, 0, none⟩ = some (.int .i64 s) ∧ w'.cell? ⟨w.heap.size, 1, none⟩ = some (.int .i64 P) ∧ w'.cell? ⟨w.heap.size, 2, none⟩ = some (.int .i64 Q) ∧ w'.cell? ⟨w.heap.size, 3, none⟩ = some (.slice (some ⟨ba, oa, none⟩) ll.length cap) ∧ w'.cell? ⟨bt, ot + (X + 1), none⟩ = some (.int .i64 z))
            (first
              | go_keep
              | (have E := Ext.trans (Ext.alloc (Ext.drew (Ext.refl _)) _) yk; have hk1 := HB.out.ext E; exact ⟨hk1.1, hk1.2.1, hk1.2.2.1, hk1.2.2.2, E.cell' C2.out zt2⟩)
              | (have E := Ext.trans (Ext.trans (Ext.alloc (Ext.drew (Ext.refl _)) _) yk) yl; have hk1 := HB.out.ext E; exact ⟨hk1.1, hk1.2.1, hk1.2.2.1, hk1.2.2.2, E.cell' C2.out zt2⟩))
            ((first
              | (go_at_call 85; refine (CTz.out _ _ (HX2.out.trans (by (repeat (first | exact Ext.refl _ | assumption | refine Ext.alloc ?_ _ | refine Ext.drewN ?_ _ | refine Ext.drew ?_)))) (by simp [go_sem])).mono ?_; rintro e wk ⟨vk, rfl, ok, yk⟩; obtain ⟨ak, ck, rfl, ik⟩ := ok.shape; rw [hr4.out.len] at ok ⊢; have hz7 := yk.size)
              | (go_at_call 102; refine (CN.out _ lc _ a2 cc2 ak ck hr3.out hr4.out (I2.out.ext (Ext.trans (by (repeat (first | exact Ext.refl _ | assumption | refine Ext.alloc ?_ _ | refine Ext.drewN ?_ _ | refine Ext.drew ?_))) yk)) ik).mono ?_; rintro e wl ⟨vl, rfl, ol, yl⟩)))
          have HX3 := Lib.hid (HX2.out.trans (Ext.trans (Ext.trans (by (repeat (first | exact Ext.refl _ | assumption | refine Ext.alloc ?_ _ | refine Ext.drewN ?_ _ | refine Ext.drew ?_))) yk) yl))
          have HB3 := Lib.hid (HB.out.ext (Ext.trans (Ext.trans (by (repeat (first | exact Ext.refl _ | assumption | refine Ext.alloc ?_ _ | refine Ext.drewN ?_ _ | refine Ext.drew ?_))) yk) yl))
          have OL := Lib.hid (ol.mono (B' := w.heap.size) (Nat.le_trans HX2.out.size (by first | (simp at hz7; omega) | omega)))
          clear ok yk ol yl ik hz7
          go_wp2
          go_roundw
          case rel => exact Lib.hid ⟨k + 1, X + 2, by omega, by have := HXk.out; unfold Hid; omega, by go_num, by rw [hS1.out]; exact OL.out, HB3.out, HX3.out⟩
          case measure => simp [intOf]; omega
        · have hkm : k = m := by omega
          have hXX : ¬ ((X : Int) + 1 < (l.length : Int)) := by have := HM2.out; have := HXk.out; omega
          have hXl : ¬ (X < l.length) := by have := HM2.out; have := HXk.out; omega
          have hX41 : X ≤ 41 := by have := HM2.out; have := HXk.out; omega
          subst hkm
          have HO := Lib.hid ho
          clear ho hbx hxr
          go_wp2
          go_ret
          exact ⟨_, rfl, by rw [HF.out]; exact HO.out, HX.out⟩
end Go.Proofs.YtlaamecfknkmlaaGreat
