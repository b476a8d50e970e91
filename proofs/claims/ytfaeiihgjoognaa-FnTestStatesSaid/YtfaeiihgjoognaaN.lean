/- Contracts: models back. -/
import Derived.Test.YtfaeiihgjoognaaJ
import Derived.Test.YtfaeiihgjoognaaRows3
import Derived.Deep.RegionLaw
namespace Go.Proofs.Ytfaeiihgjoognaa
set_option linter.unusedVariables false
open Go.RowKit Go.Kt

/-- ModelBack. -/
def mbI (st p q : Int) (ll : List (List Int)) (x : Int) : Int := if mvB st p q ll then x else 0
def mbL (st p q : Int) (ll : List (List Int)) : List (List Int) := if mvB st p q ll then mapRows (backF st) ll ll.length else []

theorem mbL_len (st p q : Int) (ll : List (List Int)) : (mbL st p q ll).length ≤ 3 := by
  unfold mbL
  split
  · rename_i h; obtain ⟨_, _, _, _, _, _, _, _, _, _, _, _, h3, _⟩ := mvB_bounds h; rw [mapRows_length]; omega
  · simp
theorem totTo_bound (ll : List (List Int)) (b : Nat) (h : ∀ i, i < ll.length → (rowI ll i).length ≤ b) : ∀ k, k ≤ ll.length → totTo ll k ≤ k * b
  | 0, _ => Nat.zero_le _
  | k + 1, hk => by
    have := totTo_bound ll b h k (by omega)
    have h2 := h k (by omega)
    simp only [totTo]
    rw [Nat.add_mul]; omega
theorem mbL_tot (st p q : Int) (ll : List (List Int)) : totTo (mbL st p q ll) (mbL st p q ll).length ≤ 15 := by
  have hl := mbL_len st p q ll
  refine Nat.le_trans (totTo_bound _ 5 (fun i hi => ?_) _ (Nat.le_refl _)) (by omega)
  unfold mbL at hi ⊢
  split at hi
  · rename_i h
    simp only [h, if_true]
    rw [mapRows_length] at hi
    rw [mapRows_row _ _ _ _ hi]
    unfold backF
    split
    · rename_i h2; rw [backTo_length]; exact (rvB_sets h2).2.2.2
    · simp
  · simp at hi

set_option maxRecDepth 100000 in
set_option maxHeartbeats 1000000 in
theorem iModelBack_c (st p q : Int) (a : Option Addr) (cap : Nat) (ll : List (List Int)) (w : World) (hr : RowsAt w a ll) (hlen : ll.length ≤ 4194304) (hm : ∀ i, i < ll.length → (rowI ll i).length ≤ 4194304) :
    Calls Try.prog 60 #[modelV st p q a ll.length cap] w (RetM 3 22 w (mbI st p q ll st) (mbI st p q ll p) (mbI st p q ll q) (mbL st p q ll)) := by
  have HR := Lib.hid hr
  have HM := Lib.hid hm
  clear hr hm
  cases hv : mvB st p q ll
  · simp only [mbI, mbL, hv, Bool.false_eq_true, if_false]
    go_enter Try.func60, Try.ntmps60
    go_wp2_with fail
    refine (iModelValid_c st p q a cap ll _ (HR.out.ext (by (repeat (first | exact Ext.refl _ | assumption | refine Ext.alloc ?_ _ | refine Ext.drewN ?_ _ | refine Ext.drew ?_)))) hlen HM.out).mono ?_
    rw [hv]
    rintro e w1 ⟨rfl, y⟩
    have HX := Lib.hid y
    obtain ⟨hc, hf⟩ := y.cells
    have hz := y.size
    simp only [World.size_alloc] at hz
    clear y
    go_wp2
    refine bodyPost_ret (v := .agg #[.int .i64 0, .int .i64 0, .int .i64 0, .slice none 0 0]) (by simp [results, Try.results60, go_sem, hc]) rfl ⟨_, rfl, ?_, ?_⟩
    · refine OwnR.mono (OwnR.nil _ _ _) ?_ (Nat.le_refl _) (Nat.le_refl _)
      simp; omega
    · repeat (refine Ext.setCell ?_ (by simp; try omega) _)
      exact Ext.trans (by (repeat (first | exact Ext.refl _ | assumption | refine Ext.alloc ?_ _ | refine Ext.drewN ?_ _ | refine Ext.drew ?_))) HX.out
  · obtain ⟨s, P, Q, rfl, rfl, rfl, h1, h5, hP, hQ, hPb, hQb, h3, hrv⟩ := mvB_bounds hv
    have HV := Lib.hid hv
    simp only [mbI, mbL, hv, if_true]
    have HRV := Lib.hid hrv
    have H3 := Lib.hid h3
    clear hv hrv hP hQ h3
    go_enter Try.func60, Try.ntmps60
    go_wp2_with fail
    refine (iModelValid_c s P Q a cap ll _ (HR.out.ext (by (repeat (first | exact Ext.refl _ | assumption | refine Ext.alloc ?_ _ | refine Ext.drewN ?_ _ | refine Ext.drew ?_)))) hlen HM.out).mono ?_
    rw [HV.out]
    rintro e w1 ⟨rfl, y⟩
    have hb : BoxM w1 w.heap.size s P Q (.slice a ll.length cap) := BoxM.ext (by simp [BoxM, go_sem]) y
    have hr2 : BoxM w1 (w.heap.size + 1) 0 0 0 (.slice none 0 0) := BoxM.ext (by simp [BoxM, go_sem]) y
    have ht2 : Thawed w1 (w.heap.size + 1) := Thawed.ext ⟨by simp, fun o => by simp [go_sem]⟩ y
    have hx : Ext w w1 := Ext.trans (by (repeat (first | exact Ext.refl _ | assumption | refine Ext.alloc ?_ _ | refine Ext.drewN ?_ _ | refine Ext.drew ?_))) y
    have hzw : w.heap.size + 2 ≤ w1.heap.size := by have := y.size; simp at this; omega
    clear y
    have kb := hb.out
    have zb := hb.lt
    go_wp2
    go_loopw [20] (fun i wr => Hid (∃ (k : Nat) (v : Value), k ≤ ll.length ∧ i = .int .i64 k ∧ OwnR wr (w1.heap.size + 1) wr.heap.size 3 22 v (mapRows (backF s) ll k) ∧ BoxM wr w1.heap.size s P Q v ∧ Thawed wr w1.heap.size ∧ BoxM wr w.heap.size s P Q (.slice a ll.length cap) ∧ BoxM wr (w.heap.size + 1) 0 0 0 (.slice none 0 0) ∧ Thawed wr (w.heap.size + 1) ∧ Ext w wr)) (fun i _ => ll.length - (intOf i).toNat)
    case atStart =>
      refine Lib.hid ⟨0, .slice none 0 0, Nat.zero_le _, rfl, ?_, ?_, ?_, ?_, ?_, ?_, ?_⟩
      · exact OwnR.mono (OwnR.nil _ _ _) (by simp) (by simp) (by simp)
      · simp [BoxM, go_sem]
      · exact ⟨by simp, fun o => by simp [go_sem]⟩
      · repeat (refine BoxM.setOther ?_ (by omega))
        exact hb.ext (by (repeat (first | exact Ext.refl _ | assumption | refine Ext.alloc ?_ _ | refine Ext.drewN ?_ _ | refine Ext.drew ?_)))
      · repeat (refine BoxM.setOther ?_ (by omega))
        exact hr2.ext (by (repeat (first | exact Ext.refl _ | assumption | refine Ext.alloc ?_ _ | refine Ext.drewN ?_ _ | refine Ext.drew ?_)))
      · repeat (refine Thawed.setCell ?_ _ _)
        exact ht2.ext (by (repeat (first | exact Ext.refl _ | assumption | refine Ext.alloc ?_ _ | refine Ext.drewN ?_ _ | refine Ext.drew ?_)))
      · repeat (refine Ext.setCell ?_ (by simp; try omega) _)
        (repeat (first | exact Ext.refl _ | assumption | refine Ext.alloc ?_ _ | refine Ext.drewN ?_ _ | refine Ext.drew ?_))
    case round =>
      obtain ⟨k, v, hk, rfl, ho, hbo, hto, hbp, hbr, htr, hxr⟩ := hrel.out
      clear hrel hb hr2 ht2 kb zb
      obtain ⟨av, cv, rfl⟩ := ho.shape
      by_cases hlt : k < ll.length
      · have hvk := HRV.out k (by rw [← H3.out]; exact hlt)
        have hrl := rvB_len hvk
        obtain ⟨b1, o1, p1, q1⟩ := HR.out.ext hxr
        obtain ⟨rfl, hz1⟩ := p1 (by omega)
        obtain ⟨ai, ci, hc, hi⟩ := q1 k (by omega)
        have HI := Lib.hid hi
        clear p1 q1 hi hvk
        have ko := hbo.out
        have kp := hbp.out
        have zo := hbo.lt
        have zp := hbp.lt
        have HO := Lib.hid ho
        have HBO := Lib.hid hbo
        have HBP := Lib.hid hbp
        have HTO := Lib.hid hto
        have HBR := Lib.hid hbr
        have HTR := Lib.hid htr
        have kf := hto.2 3
        clear ho hbo hbp hto hbr htr
        go_wp2
        go_region_law
          ((first
            | (go_simp; go_at_call 29; refine (iRowsBack_c s _ ci (rowI ll k) _ (HI.out.ext (by (repeat (first | exact Ext.refl _ | assumption | refine Ext.alloc ?_ _ | refine Ext.drewN ?_ _ | refine Ext.drew ?_ | refine Ext.setCell ?_ (by simp; try omega) _)))) (by omega)).mono ?_; rintro e wk ⟨vk, rfl, ok, yk⟩; obtain ⟨ak, ck, rfl, -⟩ := ok.shape
               have yk2 : Ext wr wk := Ext.trans (by (repeat (first | exact Ext.refl _ | assumption | refine Ext.alloc ?_ _ | refine Ext.drewN ?_ _ | refine Ext.drew ?_ | refine Ext.setCell ?_ (by simp; try omega) _))) yk
               have OK : Hid (OwnI wk wr.heap.size 3 (.slice ak (backF s (rowI ll k)).length ck) (backF s (rowI ll k))) := by simpa [Hid] using ok
               have hbok := Lib.hid (HBO.out.ext yk2)
               have hbpk := Lib.hid (HBP.out.ext yk2)
               have htok := Lib.hid (HTO.out.ext yk2)
               have kok := hbok.out.out
               have kfk := htok.out.2 3
               have zok := hbok.out.lt
               clear ok yk)
            | (refine step_append_row rfl _ _ _ rfl (w1.heap.size + 1) wr.heap.size 3 22 (by decide) Try.underlying35 infoInts _ (mapRows (backF s) ll k) rfl (HO.out.ext (Ext.trans yk2 (by (repeat (first | exact Ext.refl _ | assumption | refine Ext.alloc ?_ _ | refine Ext.drewN ?_ _ | refine Ext.drew ?_ | refine Ext.setCell ?_ (by simp; try omega) _))))) _ _ (backF s (rowI ll k)) (OwnI.ext OK.out (by (repeat (first | exact Ext.refl _ | assumption | refine Ext.alloc ?_ _ | refine Ext.drewN ?_ _ | refine Ext.drew ?_ | refine Ext.setCell ?_ (by simp; try omega) _)))) rfl (by first | exact cell_new0 _ _ _ | simp) (by rw [mapRows_length]; omega) ?_; intro v' w' ho' hg; obtain ⟨av', cv', rfl⟩ := ho'.shape
               have ht := OwnR.touched (HO.out.ext (Ext.trans yk2 (by (repeat (first | exact Ext.refl _ | assumption | refine Ext.alloc ?_ _ | refine Ext.drewN ?_ _ | refine Ext.drew ?_ | refine Ext.setCell ?_ (by simp; try omega) _))))) hg
               have hbo1 := Lib.hid ((hbok.out.ext (by (repeat (first | exact Ext.refl _ | assumption | refine Ext.alloc ?_ _ | refine Ext.drewN ?_ _ | refine Ext.drew ?_ | refine Ext.setCell ?_ (by simp; try omega) _)))).untouched ht (by omega))
               have hbp1 := Lib.hid ((hbpk.out.ext (by (repeat (first | exact Ext.refl _ | assumption | refine Ext.alloc ?_ _ | refine Ext.drewN ?_ _ | refine Ext.drew ?_ | refine Ext.setCell ?_ (by simp; try omega) _)))).untouched ht (by omega))
               have hto1 := Lib.hid ((htok.out.ext (by (repeat (first | exact Ext.refl _ | assumption | refine Ext.alloc ?_ _ | refine Ext.drewN ?_ _ | refine Ext.drew ?_ | refine Ext.setCell ?_ (by simp; try omega) _)))).untouched ht (by omega))
               have hbr1 := Lib.hid ((HBR.out.ext (Ext.trans yk2 (by (repeat (first | exact Ext.refl _ | assumption | refine Ext.alloc ?_ _ | refine Ext.drewN ?_ _ | refine Ext.drew ?_ | refine Ext.setCell ?_ (by simp; try omega) _))))).untouched ht (by omega))
               have htr1 := Lib.hid ((HTR.out.ext (Ext.trans yk2 (by (repeat (first | exact Ext.refl _ | assumption | refine Ext.alloc ?_ _ | refine Ext.drewN ?_ _ | refine Ext.drew ?_ | refine Ext.setCell ?_ (by simp; try omega) _))))).untouched ht (by omega))
               have hx1 := Lib.hid (ht.ext (hxr.trans (Ext.trans yk2 (by (repeat (first | exact Ext.refl _ | assumption | refine Ext.alloc ?_ _ | refine Ext.drewN ?_ _ | refine Ext.drew ?_ | refine Ext.setCell ?_ (by simp; try omega) _))))) (by omega))
               have HO1 := Lib.hid ho'
               have kf1 := hto1.out.2 3
               have ko1 := hbo1.out.out
               have zo1 := hbo1.out.lt
               clear ho' hg ht)))
        all_goals
          go_wp2
          go_roundw
          case rel =>
            refine Lib.hid ⟨k + 1, .slice av' (mapRows (backF s) ll k ++ [backF s (rowI ll k)]).length cv', by omega, by go_num, ?_, ?_, ?_, ?_, ?_, ?_, ?_⟩
            · rw [mapRows_succ]; exact HO1.out.stored (by simp) _
            · rw [List.length_append]; exact hbo1.out.setRow
            · exact hto1.out.setCell _ _
            · exact hbp1.out.setOther (by omega)
            · exact hbr1.out.setOther (by omega)
            · exact htr1.out.setCell _ _
            · exact hx1.out.setCell (by simp; try omega) _
          case measure => simp [intOf]; omega
      · obtain rfl : k = ll.length := by omega
        have ko := hbo.out
        have kr := hbr.out
        have zo := hbo.lt
        have kt := htr.2
        have zt := htr.1
        have HO := Lib.hid ho
        have HX := Lib.hid hxr
        clear ho hxr
        go_wp2
        refine bodyPost_ret (v := .agg #[.int .i64 s, .int .i64 P, .int .i64 Q, .slice av (mapRows (backF s) ll ll.length).length cv]) (by simp [results, Try.results60, go_sem, kr]) rfl ⟨_, rfl, ?_, ?_⟩
        · refine OwnR.mono (B := w1.heap.size + 1) (T := wr.heap.size) ?_ (by omega) (by simp) (Nat.le_refl _)
          repeat (refine OwnR.setOld ?_ (by simp; try omega) _)
          exact HO.out
        · repeat (refine Ext.setCell ?_ (by simp; try omega) _)
          exact HX.out
set_option maxRecDepth 100000 in
set_option maxHeartbeats 1000000 in
theorem sModelBack_c (st p q : Int) (a : Option Addr) (cap : Nat) (ll : List (List Int)) (w : World) (hr : RowsAt w a ll) (hlen : ll.length ≤ 4194304) (hm : ∀ i, i < ll.length → (rowI ll i).length ≤ 4194304) :
    Calls Try.prog 62 #[modelV st p q a ll.length cap] w (RetM 3 22 w (mbI st p q ll st) (mbI st p q ll p) (mbI st p q ll q) (mbL st p q ll)) := by
  have HR := Lib.hid hr
  have HM := Lib.hid hm
  clear hr hm
  cases hv : mvB st p q ll
  · simp only [mbI, mbL, hv, Bool.false_eq_true, if_false]
    go_enter Try.func62, Try.ntmps62
    go_wp2_with fail
    refine (sModelValid_c st p q a cap ll _ (HR.out.ext (by (repeat (first | exact Ext.refl _ | assumption | refine Ext.alloc ?_ _ | refine Ext.drewN ?_ _ | refine Ext.drew ?_)))) hlen HM.out).mono ?_
    rw [hv]
    rintro e w1 ⟨rfl, y⟩
    have HX := Lib.hid y
    obtain ⟨hc, hf⟩ := y.cells
    have hz := y.size
    simp only [World.size_alloc] at hz
    clear y
    go_wp2
    refine bodyPost_ret (v := .agg #[.int .i64 0, .int .i64 0, .int .i64 0, .slice none 0 0]) (by simp [results, Try.results62, go_sem, hc]) rfl ⟨_, rfl, ?_, ?_⟩
    · refine OwnR.mono (OwnR.nil _ _ _) ?_ (Nat.le_refl _) (Nat.le_refl _)
      simp; omega
    · repeat (refine Ext.setCell ?_ (by simp; try omega) _)
      exact Ext.trans (by (repeat (first | exact Ext.refl _ | assumption | refine Ext.alloc ?_ _ | refine Ext.drewN ?_ _ | refine Ext.drew ?_))) HX.out
  · obtain ⟨s, P, Q, rfl, rfl, rfl, h1, h5, hP, hQ, hPb, hQb, h3, hrv⟩ := mvB_bounds hv
    have HV := Lib.hid hv
    simp only [mbI, mbL, hv, if_true]
    have HRV := Lib.hid hrv
    have H3 := Lib.hid h3
    clear hv hrv hP hQ h3
    go_enter Try.func62, Try.ntmps62
    go_wp2_with fail
    refine (sModelValid_c s P Q a cap ll _ (HR.out.ext (by (repeat (first | exact Ext.refl _ | assumption | refine Ext.alloc ?_ _ | refine Ext.drewN ?_ _ | refine Ext.drew ?_)))) hlen HM.out).mono ?_
    rw [HV.out]
    rintro e w1 ⟨rfl, y⟩
    have hb : BoxM w1 w.heap.size s P Q (.slice a ll.length cap) := BoxM.ext (by simp [BoxM, go_sem]) y
    have hr2 : BoxM w1 (w.heap.size + 1) 0 0 0 (.slice none 0 0) := BoxM.ext (by simp [BoxM, go_sem]) y
    have ht2 : Thawed w1 (w.heap.size + 1) := Thawed.ext ⟨by simp, fun o => by simp [go_sem]⟩ y
    have hx : Ext w w1 := Ext.trans (by (repeat (first | exact Ext.refl _ | assumption | refine Ext.alloc ?_ _ | refine Ext.drewN ?_ _ | refine Ext.drew ?_))) y
    have hzw : w.heap.size + 2 ≤ w1.heap.size := by have := y.size; simp at this; omega
    clear y
    have kb := hb.out
    have zb := hb.lt
    go_wp2
    go_loopw [4] (fun i wr => Hid (∃ (k : Nat) (v : Value), k ≤ ll.length ∧ i = .int .i64 k ∧ OwnR wr (w1.heap.size + 1) wr.heap.size 3 22 v (mapRows (backF s) ll k) ∧ BoxM wr w1.heap.size s P Q v ∧ Thawed wr w1.heap.size ∧ BoxM wr w.heap.size s P Q (.slice a ll.length cap) ∧ BoxM wr (w.heap.size + 1) 0 0 0 (.slice none 0 0) ∧ Thawed wr (w.heap.size + 1) ∧ Ext w wr)) (fun i _ => ll.length - (intOf i).toNat)
    case atStart =>
      refine Lib.hid ⟨0, .slice none 0 0, Nat.zero_le _, rfl, ?_, ?_, ?_, ?_, ?_, ?_, ?_⟩
      · exact OwnR.mono (OwnR.nil _ _ _) (by simp) (by simp) (by simp)
      · simp [BoxM, go_sem]
      · exact ⟨by simp, fun o => by simp [go_sem]⟩
      · repeat (refine BoxM.setOther ?_ (by omega))
        exact hb.ext (by (repeat (first | exact Ext.refl _ | assumption | refine Ext.alloc ?_ _ | refine Ext.drewN ?_ _ | refine Ext.drew ?_)))
      · repeat (refine BoxM.setOther ?_ (by omega))
        exact hr2.ext (by (repeat (first | exact Ext.refl _ | assumption | refine Ext.alloc ?_ _ | refine Ext.drewN ?_ _ | refine Ext.drew ?_)))
      · repeat (refine Thawed.setCell ?_ _ _)
        exact ht2.ext (by (repeat (first | exact Ext.refl _ | assumption | refine Ext.alloc ?_ _ | refine Ext.drewN ?_ _ | refine Ext.drew ?_)))
      · repeat (refine Ext.setCell ?_ (by simp; try omega) _)
        (repeat (first | exact Ext.refl _ | assumption | refine Ext.alloc ?_ _ | refine Ext.drewN ?_ _ | refine Ext.drew ?_))
    case round =>
      obtain ⟨k, v, hk, rfl, ho, hbo, hto, hbp, hbr, htr, hxr⟩ := hrel.out
      clear hrel hb hr2 ht2 kb zb
      obtain ⟨av, cv, rfl⟩ := ho.shape
      by_cases hlt : k < ll.length
      · have hk3 : k < 3 := by have := H3.out; omega
        have hvk := HRV.out k hk3
        have hrl := rvB_len hvk
        obtain ⟨b1, o1, p1, q1⟩ := HR.out.ext hxr
        obtain ⟨rfl, hz1⟩ := p1 (by omega)
        obtain ⟨ai, ci, hc, hi⟩ := q1 k (by omega)
        have HI := Lib.hid hi
        clear p1 q1 hi hvk
        have ko := hbo.out
        have kp := hbp.out
        have zo := hbo.lt
        have zp := hbp.lt
        have HO := Lib.hid ho
        have HBO := Lib.hid hbo
        have HBP := Lib.hid hbp
        have HTO := Lib.hid hto
        have HBR := Lib.hid hbr
        have HTR := Lib.hid htr
        have kf := hto.2 3
        have kp3 := kp.2.2.2
        clear ho hbo hbp hto hbr htr
        go_wp2
        go_region_law
          ((first
            | (go_simp; go_at_call 28; refine (sRowsBack_c s _ ci (rowI ll k) _ (HI.out.ext (by (repeat (first | exact Ext.refl _ | assumption | refine Ext.alloc ?_ _ | refine Ext.drewN ?_ _ | refine Ext.drew ?_ | refine Ext.setCell ?_ (by simp; try omega) _)))) (by omega)).mono ?_; rintro e wk ⟨vk, rfl, ok, yk⟩; obtain ⟨ak, ck, rfl, -⟩ := ok.shape
               have yk2 : Ext wr wk := Ext.trans (by (repeat (first | exact Ext.refl _ | assumption | refine Ext.alloc ?_ _ | refine Ext.drewN ?_ _ | refine Ext.drew ?_ | refine Ext.setCell ?_ (by simp; try omega) _))) yk
               have OK : Hid (OwnI wk wr.heap.size 3 (.slice ak (backF s (rowI ll k)).length ck) (backF s (rowI ll k))) := by simpa [Hid] using ok
               have hbok := Lib.hid (HBO.out.ext yk2)
               have hbpk := Lib.hid (HBP.out.ext yk2)
               have htok := Lib.hid (HTO.out.ext yk2)
               have kok := hbok.out.out
               have kfk := htok.out.2 3
               have zok := hbok.out.lt
               clear ok yk)
            | (refine step_append_row rfl _ _ _ rfl (w1.heap.size + 1) wr.heap.size 3 22 (by decide) Try.underlying35 infoInts _ (mapRows (backF s) ll k) rfl (HO.out.ext (Ext.trans yk2 (by (repeat (first | exact Ext.refl _ | assumption | refine Ext.alloc ?_ _ | refine Ext.drewN ?_ _ | refine Ext.drew ?_ | refine Ext.setCell ?_ (by simp; try omega) _))))) _ _ (backF s (rowI ll k)) (OwnI.ext OK.out (by (repeat (first | exact Ext.refl _ | assumption | refine Ext.alloc ?_ _ | refine Ext.drewN ?_ _ | refine Ext.drew ?_ | refine Ext.setCell ?_ (by simp; try omega) _)))) rfl (by first | exact cell_new0 _ _ _ | simp) (by rw [mapRows_length]; omega) ?_; intro v' w' ho' hg; obtain ⟨av', cv', rfl⟩ := ho'.shape
               have ht := OwnR.touched (HO.out.ext (Ext.trans yk2 (by (repeat (first | exact Ext.refl _ | assumption | refine Ext.alloc ?_ _ | refine Ext.drewN ?_ _ | refine Ext.drew ?_ | refine Ext.setCell ?_ (by simp; try omega) _))))) hg
               have hbo1 := Lib.hid ((hbok.out.ext (by (repeat (first | exact Ext.refl _ | assumption | refine Ext.alloc ?_ _ | refine Ext.drewN ?_ _ | refine Ext.drew ?_ | refine Ext.setCell ?_ (by simp; try omega) _)))).untouched ht (by omega))
               have hbp1 := Lib.hid ((hbpk.out.ext (by (repeat (first | exact Ext.refl _ | assumption | refine Ext.alloc ?_ _ | refine Ext.drewN ?_ _ | refine Ext.drew ?_ | refine Ext.setCell ?_ (by simp; try omega) _)))).untouched ht (by omega))
               have hto1 := Lib.hid ((htok.out.ext (by (repeat (first | exact Ext.refl _ | assumption | refine Ext.alloc ?_ _ | refine Ext.drewN ?_ _ | refine Ext.drew ?_ | refine Ext.setCell ?_ (by simp; try omega) _)))).untouched ht (by omega))
               have hbr1 := Lib.hid ((HBR.out.ext (Ext.trans yk2 (by (repeat (first | exact Ext.refl _ | assumption | refine Ext.alloc ?_ _ | refine Ext.drewN ?_ _ | refine Ext.drew ?_ | refine Ext.setCell ?_ (by simp; try omega) _))))).untouched ht (by omega))
               have htr1 := Lib.hid ((HTR.out.ext (Ext.trans yk2 (by (repeat (first | exact Ext.refl _ | assumption | refine Ext.alloc ?_ _ | refine Ext.drewN ?_ _ | refine Ext.drew ?_ | refine Ext.setCell ?_ (by simp; try omega) _))))).untouched ht (by omega))
               have hx1 := Lib.hid (ht.ext (hxr.trans (Ext.trans yk2 (by (repeat (first | exact Ext.refl _ | assumption | refine Ext.alloc ?_ _ | refine Ext.drewN ?_ _ | refine Ext.drew ?_ | refine Ext.setCell ?_ (by simp; try omega) _))))) (by omega))
               have HO1 := Lib.hid ho'
               have kf1 := hto1.out.2 3
               have ko1 := hbo1.out.out
               have zo1 := hbo1.out.lt
               clear ho' hg ht)))
        all_goals
          go_wp2
          go_roundw
          case rel =>
            refine Lib.hid ⟨k + 1, .slice av' (mapRows (backF s) ll k ++ [backF s (rowI ll k)]).length cv', by omega, by go_num, ?_, ?_, ?_, ?_, ?_, ?_, ?_⟩
            · rw [mapRows_succ]; exact HO1.out.stored (by simp) _
            · rw [List.length_append]; exact hbo1.out.setRow
            · exact hto1.out.setCell _ _
            · exact hbp1.out.setOther (by omega)
            · exact hbr1.out.setOther (by omega)
            · exact htr1.out.setCell _ _
            · exact hx1.out.setCell (by simp; try omega) _
          case measure => simp [intOf]; omega
      · obtain rfl : k = ll.length := by omega
        have hk3 : 3 ≤ ll.length := by have := H3.out; omega
        have ko := hbo.out
        have kr := hbr.out
        have zo := hbo.lt
        have kt := htr.2
        have zt := htr.1
        have HO := Lib.hid ho
        have HX := Lib.hid hxr
        clear ho hxr
        go_wp2
        refine bodyPost_ret (v := .agg #[.int .i64 s, .int .i64 P, .int .i64 Q, .slice av (mapRows (backF s) ll ll.length).length cv]) (by simp [results, Try.results62, go_sem, kr]) rfl ⟨_, rfl, ?_, ?_⟩
        · refine OwnR.mono (B := w1.heap.size + 1) (T := wr.heap.size) ?_ (by omega) (by simp) (Nat.le_refl _)
          repeat (refine OwnR.setOld ?_ (by simp; try omega) _)
          exact HO.out
        · repeat (refine Ext.setCell ?_ (by simp; try omega) _)
          exact HX.out
end Go.Proofs.Ytfaeiihgjoognaa
