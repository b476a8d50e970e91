/- Merged texts: contracts and plain lemmas (Vo). -/
import Derived.Test.YtlaamecfknkmlaaDoorMh13
import Derived.Test.YtlaamecfknkmlaaDoorMh15
/- Contracts: models drawn whose rows are the call's own; certain models drawn. -/
namespace Go.Proofs.YtlaamecfknkmlaaDoor
set_option linter.unusedVariables false
open Go.RowKit Go.Kt

/-- What drawing a model comes to, where nothing is made wrong. -/
def DrewM0 (w : World) (g m : Nat) (e : Ending) (w' : World) : Prop :=
  ∃ (s : Nat) (p q : Int) (a : Option Addr) (cap : Nat) (ll : List (List Int)) (B0 T : Nat), e = .returned (modelV s p q a ll.length cap) ∧ 1 ≤ s ∧ s ≤ 5 ∧ w.heap.size < B0 ∧ OwnR w' B0 T 3 29 (.slice a ll.length cap) ll ∧ 3 ≤ ll.length ∧ ll.length ≤ 3 ∧
    (∀ j, j < ll.length → s ≤ (rowI ll j).length ∧ (rowI ll j).length ≤ s + 1) ∧ Rd w' g (m + 1000) ∧ Touched w w' g (g + 1)
theorem drewM0_of {w wX w' : World} {g b6 B0 T m m' s cap : Nat} {p q : Int} {a : Option Addr} {ll : List (List Int)} (h : ModelSt w wX g b6 B0 T m' s p q (.slice a ll.length cap) ll) (hm : m' ≤ m + 1000) (h1 : 1 ≤ s) (hs : s ≤ 5) (h3 : 3 ≤ ll.length) (h3' : ll.length ≤ 3)
    (hrows : ∀ j, j < ll.length → s ≤ (rowI ll j).length ∧ (rowI ll j).length ≤ s + 1) (t : Touched wX w' w.heap.size (w.heap.size + 1)) : DrewM0 w g m (.returned (modelV s p q a ll.length cap)) w' := by
  have e1 := h.hg; have e2 := h.hw; have e3 := h.hb
  exact ⟨s, p, q, a, cap, ll, B0, T, rfl, h1, hs, by omega, h.own.untouched t (.inr (by omega)), h3, h3', hrows, (h.rd.untouched t e1).mono hm, h.tch.high t (Nat.le_refl _)⟩
set_option maxRecDepth 100000 in
set_option maxHeartbeats 2000000 in
theorem l20Model0_c (g m : Nat) (w : World) (h : Rd w g m) (hm : m ≤ 10000) :
    Calls Tryd.prog 20 #[.pointer (some ⟨g, 0, none⟩), .int .i64 0] w (DrewM0 w g m) := by
  have hg := h.lt
  have HH := Lib.hid h
  clear h
  go_enter Tryd.func20, Tryd.ntmps20
  go_wp2_with fail
  refine (pick_c g m 5 _ (HH.out.ext (by (repeat (first | exact Ext.refl _ | assumption | refine Ext.alloc ?_ _ | refine Ext.drewN ?_ _ | refine Ext.drew ?_)))) (by omega)).mono ?_
  rintro e w1 ⟨x, rfl, hx, hr1, ht1⟩
  obtain ⟨s, hs1, hs5, hwr⟩ : ∃ s : Nat, 1 ≤ s ∧ s ≤ 5 ∧ IntKind.i64.wrap (1 + (x : Int)) = (s : Int) := ⟨x + 1, by omega, by omega, by rw [IntWalk.i64_in _ (by omega)]; omega⟩
  have hpc := pow2_cast s
  have hps : pow2 s ≤ 64 := pow2_le s 6 (by omega)
  have hwp : IntKind.i64.wrap ((pow2 s : Nat) : Int) = ((pow2 s : Nat) : Int) := IntWalk.i64_in _ (by omega)
  have hb4 : BoxM w1 w.heap.size 0 0 0 (.slice none 0 0) := BoxM.untouched (by simp [BoxM, go_sem]) ht1 (.inr (by omega))
  have ht4 : Thawed w1 w.heap.size := Thawed.untouched ⟨by simp, fun o => by simp [go_sem]⟩ ht1 (.inr (by omega))
  have hz1 : w.heap.size < w1.heap.size := ht4.1
  replace ht1 : Touched w w1 g (g + 1) := Touched.trans (Touched.of_ext (by (repeat (first | exact Ext.refl _ | assumption | refine Ext.alloc ?_ _ | refine Ext.drewN ?_ _ | refine Ext.drew ?_)))) ht1
  have HB4 := Lib.hid hb4
  have HT4 := Lib.hid ht4
  have HT1 := Lib.hid ht1
  have HR1 := Lib.hid hr1
  clear hb4 ht4 ht1 hr1
  go_upto_region 2 with fail
  go_cut [6] (fun pv wx => Hid (∃ (b6 p q : Nat), pv = .pointer (some ⟨b6, 0, none⟩) ∧ w.heap.size < b6 ∧ BoxM wx b6 s p q (.slice none 0 0) ∧ Thawed wx b6 ∧ BoxM wx w.heap.size 0 0 0 (.slice none 0 0) ∧ Thawed wx w.heap.size ∧ Rd wx g (m + 3) ∧ Touched w wx g (g + 1)))
  case first =>
    go_region_law ((first
      | (go_simp; go_at_call 37; refine (pick_c g _ _ _ (hr2.ext (by (repeat (first | exact Ext.refl _ | assumption | refine Ext.alloc ?_ _ | refine Ext.drewN ?_ _ | refine Ext.drew ?_)))) (by omega)).mono ?_; rintro e w3 ⟨q, rfl, hq, hr3, ht3⟩
         have hres3 := BoxM.untouched (BoxM.ext hres2 (by (repeat (first | exact Ext.refl _ | assumption | refine Ext.alloc ?_ _ | refine Ext.drewN ?_ _ | refine Ext.drew ?_)))) ht3 (.inr (by omega))
         have hrt3 := Thawed.untouched (Thawed.ext hrt2 (by (repeat (first | exact Ext.refl _ | assumption | refine Ext.alloc ?_ _ | refine Ext.drewN ?_ _ | refine Ext.drew ?_)))) ht3 (.inr (by omega))
         have htc3 := Touched.trans (Touched.then htc2 (by (repeat (first | exact Ext.refl _ | assumption | refine Ext.alloc ?_ _ | refine Ext.drewN ?_ _ | refine Ext.drew ?_)))) ht3
         have hz3 : w2.heap.size ≤ w3.heap.size := by have := ht3.size; (try simp at this); omega
         first
           | (have hk3 := And.intro (BoxM.untouched (BoxM.ext hk2.1 (by (repeat (first | exact Ext.refl _ | assumption | refine Ext.alloc ?_ _ | refine Ext.drewN ?_ _ | refine Ext.drew ?_)))) ht3 (.inr (by omega))) (Thawed.untouched (Thawed.ext hk2.2 (by (repeat (first | exact Ext.refl _ | assumption | refine Ext.alloc ?_ _ | refine Ext.drewN ?_ _ | refine Ext.drew ?_)))) ht3 (.inr (by omega)))
              have c3 := hk3.1.out
              have f3 := hk3.2.2
              have z3 := hk3.2.1)
           | (have hk3 := box_fresh ht3 (by omega)
              have c3 := hk3.1.out
              have f3 := hk3.2.2
              have z3 := hk3.2.1)
           | (have hk3 := box_fresh' ht3 (by omega)
              have c3 := hk3.1.out
              have f3 := hk3.2.2
              have z3 := hk3.2.1)
           | skip)
      | (go_simp; go_at_call 37; refine (pick_c g _ _ _ (HR1.out.ext (by (repeat (first | exact Ext.refl _ | assumption | refine Ext.alloc ?_ _ | refine Ext.drewN ?_ _ | refine Ext.drew ?_)))) (by omega)).mono ?_; rintro e w2 ⟨p, rfl, hp, hr2, ht2⟩
         have hres2 := BoxM.untouched (BoxM.ext HB4.out (by (repeat (first | exact Ext.refl _ | assumption | refine Ext.alloc ?_ _ | refine Ext.drewN ?_ _ | refine Ext.drew ?_)))) ht2 (.inr (by omega))
         have hrt2 := Thawed.untouched (Thawed.ext HT4.out (by (repeat (first | exact Ext.refl _ | assumption | refine Ext.alloc ?_ _ | refine Ext.drewN ?_ _ | refine Ext.drew ?_)))) ht2 (.inr (by omega))
         have htc2 := Touched.trans (Touched.then HT1.out (by (repeat (first | exact Ext.refl _ | assumption | refine Ext.alloc ?_ _ | refine Ext.drewN ?_ _ | refine Ext.drew ?_)))) ht2
         have hz2 : w1.heap.size ≤ w2.heap.size := by have := ht2.size; (try simp at this); omega
         first
           | (have hk2 := box_fresh ht2 (by omega))
           | (have hk2 := box_fresh' ht2 (by omega))
           | skip)
      | fail))
    all_goals
      go_wp2_with fail
      go_meet
      case rel =>
        refine Lib.hid ⟨_, p, q, rfl, by omega, ?_, ?_, ?_, ?_, ?_, ?_⟩
        · first
            | exact box_put hk3.1 _ _ _
            | simp [BoxM, go_sem]
        · first
            | exact (((hk3.2.setCell _ _).setCell _ _).setCell _ _).setCell _ _
            | exact ⟨by simp, fun o => by simp [go_sem]⟩
        · refine BoxM.untouched hres3 (B := w.heap.size + 1) (T := w3.heap.size + 1) ?_ (.inl (by omega))
          (repeat (first | exact Touched.refl _ _ _ | refine Touched.setIn ?_ (by dsimp only; omega) (by dsimp only; omega) _ | exact Touched.of_ext (by (repeat (first | exact Ext.refl _ | assumption | refine Ext.alloc ?_ _ | refine Ext.drewN ?_ _ | refine Ext.drew ?_)))))
        · refine Thawed.untouched hrt3 (B := w.heap.size + 1) (T := w3.heap.size + 1) ?_ (.inl (by omega))
          (repeat (first | exact Touched.refl _ _ _ | refine Touched.setIn ?_ (by dsimp only; omega) (by dsimp only; omega) _ | exact Touched.of_ext (by (repeat (first | exact Ext.refl _ | assumption | refine Ext.alloc ?_ _ | refine Ext.drewN ?_ _ | refine Ext.drew ?_)))))
        · refine Rd.mono (Rd.untouched hr3 (B := w.heap.size + 1) (T := w3.heap.size + 1) ?_ (by omega)) (by omega)
          (repeat (first | exact Touched.refl _ _ _ | refine Touched.setIn ?_ (by dsimp only; omega) (by dsimp only; omega) _ | exact Touched.of_ext (by (repeat (first | exact Ext.refl _ | assumption | refine Ext.alloc ?_ _ | refine Ext.drewN ?_ _ | refine Ext.drew ?_)))))
        · refine htc3.high (B := w.heap.size + 1) (T := w3.heap.size + 1) ?_ (by omega)
          (repeat (first | exact Touched.refl _ _ _ | refine Touched.setIn ?_ (by dsimp only; omega) (by dsimp only; omega) _ | exact Touched.of_ext (by (repeat (first | exact Ext.refl _ | assumption | refine Ext.alloc ?_ _ | refine Ext.drewN ?_ _ | refine Ext.drew ?_)))))
  case rest =>
    obtain ⟨b6, p, q, rfl, hwb, hb6, ht6, hb4, ht4, hrd, htc⟩ := hcut.out
    clear hcut HB4 HT4 HT1 HR1
    go_wp2
    go_loopw [7] (fun i wr => Hid (∃ (B0 T : Nat) (v : Value) (ll : List (List Int)), ll.length ≤ 3 ∧ i = .int .i64 ll.length ∧ (∀ j, j < ll.length → s ≤ (rowI ll j).length ∧ (rowI ll j).length ≤ s + 1) ∧ ModelSt w wr g b6 B0 T (m + 3 + 100 * ll.length) s p q v ll)) (fun i _ => 3 - (intOf i).toNat)
    case atStart =>
      refine Lib.hid ⟨wc.heap.size, wc.heap.size, .slice none 0 0, [], by simp, rfl, fun j hj => absurd hj (by simp), hg, hwb, ht6.1, OwnR.nil _ _ _, hb6, ht6, hb4, ht4, hrd.mono (by omega), htc⟩
    case round =>
      obtain ⟨B0, T, v, ll, h3, rfl, hrows, hst⟩ := hrel.out
      clear hrel hb6 ht6 hb4 ht4 hrd htc
      by_cases hlt : ll.length < 3
      · obtain ⟨av, cv, rfl⟩ := hst.own.shape
        have HST := Lib.hid hst
        have HRW := Lib.hid hrows
        have k0 := hst.box.out
        have f0 := hst.thaw.2
        have z0 := hst.thaw.1
        have zT := hst.own.top'.2
        clear hst hrows
        go_wp2
        go_region_law ((first
          | (go_simp; go_at_call 44; refine (l20Rows_c g _ s 0 _ (HST.out.rd.ext (by (repeat (first | exact Ext.refl _ | assumption | refine Ext.alloc ?_ _ | refine Ext.drewN ?_ _ | refine Ext.drew ?_)))) (by omega) (by omega) (by omega)).mono ?_; rintro e wk ⟨vk, L, rfl, ok, hLs, hL1, hrk, htk⟩; obtain ⟨ak, ck, rfl, -⟩ := ok.shape
             have hmk := Lib.hid (ModelSt.drawn (HST.out.ext (by (repeat (first | exact Ext.refl _ | assumption | refine Ext.alloc ?_ _ | refine Ext.drewN ?_ _ | refine Ext.drew ?_)))) htk hrk)
             have OK : Hid (OwnI wk T 3 (.slice ak L.length ck) L) := OwnI.mono ok (by (try simp); omega)
             have kk := hmk.out.box.out
             have fk := hmk.out.thaw.2
             have zk := hmk.out.thaw.1
             clear ok htk hrk)
          | (refine step_append_row rfl _ _ _ rfl B0 T 3 29 (by decide) Tryd.underlying23 infoInts _ ll rfl ((hmk.out.ext (by (repeat (first | exact Ext.refl _ | assumption | refine Ext.alloc ?_ _ | refine Ext.drewN ?_ _ | refine Ext.drew ?_)))).own) _ _ L (OwnI.ext OK.out (by (repeat (first | exact Ext.refl _ | assumption | refine Ext.alloc ?_ _ | refine Ext.drewN ?_ _ | refine Ext.drew ?_)))) rfl (by first | exact cell_new0 _ _ _ | simp) (by omega) ?_; intro v' w' ho' hgr
             have htt := OwnR.touched ((hmk.out.ext (by (repeat (first | exact Ext.refl _ | assumption | refine Ext.alloc ?_ _ | refine Ext.drewN ?_ _ | refine Ext.drew ?_)))).own) hgr
             obtain ⟨av', cv', rfl⟩ := ho'.shape
             have hturn := Lib.hid ((hmk.out.ext (by (repeat (first | exact Ext.refl _ | assumption | refine Ext.alloc ?_ _ | refine Ext.drewN ?_ _ | refine Ext.drew ?_)))).turned htt ho')
             have kx := hturn.out.1.out
             have fx := hturn.out.2.1.2
             have zx := hturn.out.2.1.1
             clear htt ho' hgr)
          | fail))
        all_goals
          go_wp2
          go_roundw
          case rel =>
            have hnew := hturn.out.2.2.2
            rw [show (ll ++ [L]).length = ll.length + 1 by simp] at hnew
            refine Lib.hid ⟨B0, _, _, ll ++ [L], ?_, by simp, rows_more HRW.out ⟨hLs, hL1⟩, ModelSt.mono hnew ?_⟩
            · rw [show (ll ++ [L]).length = ll.length + 1 by simp]; omega
            · rw [show (ll ++ [L]).length = ll.length + 1 by simp]; omega
          case measure => simp [intOf]; omega
      · go_wp2_with fail
        refine (pick_c g _ 3 _ (hst.rd.ext (by (repeat (first | exact Ext.refl _ | assumption | refine Ext.alloc ?_ _ | refine Ext.drewN ?_ _ | refine Ext.drew ?_)))) (by omega)).mono ?_
        rintro e wp ⟨x3, rfl, hx3, hrp, htp⟩
        replace hst := ModelSt.mono (m' := m + 350) (ModelSt.drawn (hst.ext (by (repeat (first | exact Ext.refl _ | assumption | refine Ext.alloc ?_ _ | refine Ext.drewN ?_ _ | refine Ext.drew ?_)))) htp hrp) (by omega)
        have hlen3 : 3 ≤ ll.length := by omega
        clear htp hrp
        go_upto_if 37 with fail
        go_cut [8, 9] (fun s8 s9 wx => Hid (∃ (B0 T : Nat) (v : Value) (ll : List (List Int)), 3 ≤ ll.length ∧ ll.length ≤ 3 ∧ (∀ j, j < ll.length → s ≤ (rowI ll j).length ∧ (rowI ll j).length ≤ s + 1) ∧ ModelSt w wx g b6 B0 T (m + 500) s p q v ll))
        case first =>
          by_cases hx0 : x3 = 0
          · subst hx0
            have HST := Lib.hid hst
            have HRW := Lib.hid hrows
            clear hst hrows
            go_wp2
            go_loopw [8, 9] (fun i j wr => Hid (∃ (k B0 T : Nat) (v : Value) (ll : List (List Int)), k ≤ 3 ∧ i = .int .i64 k ∧ 3 ≤ ll.length ∧ ll.length ≤ 3 ∧ (∀ j, j < ll.length → s ≤ (rowI ll j).length ∧ (rowI ll j).length ≤ s + 1) ∧ ModelSt w wr g b6 B0 T (m + 350 + 10 * k) s p q v ll)) (fun i _ _ => 3 - (intOf i).toNat)
            case atStart => exact Lib.hid ⟨0, B0, T, v, ll, by omega, rfl, hlen3, h3, HRW.out, HST.out⟩
            case round =>
              clear HST HRW hlen3 h3 hlt
              obtain ⟨k, B1, T1, v1, l1, hk, rfl, hl1, hl2, hrow1, hst1⟩ := hrel.out
              clear hrel
              by_cases hk3 : k < 3
              · have HS1 := Lib.hid hst1
                have HR1 := Lib.hid hrow1
                clear hst1 hrow1
                have hkb : decide ((k : Int) < 3) = true := by simp; omega
                go_wp2
                go_loopw [9] (fun j wr => Hid (∃ (t B0 T : Nat) (v : Value) (ll : List (List Int)), t ≤ s ∧ j = .int .i64 t ∧ 3 ≤ ll.length ∧ ll.length ≤ 3 ∧ (∀ j, j < ll.length → s ≤ (rowI ll j).length ∧ (rowI ll j).length ≤ s + 1) ∧ ModelSt w wr g b6 B0 T (m + 350 + 10 * k + t) s p q v ll)) (fun j _ => s - (intOf j).toNat)
                case atStart => exact Lib.hid ⟨0, B1, T1, v1, l1, by omega, rfl, hl1, hl2, HR1.out, HS1.out⟩
                case round =>
                  clear HS1 HR1 hl1 hl2
                  obtain ⟨t, B2, T2, v2, l2, ht, rfl, hm1, hm2, hrow2, hst2⟩ := hrel.out
                  clear hrel
                  by_cases htl : t < s
                  · obtain ⟨av, cv, rfl⟩ := hst2.own.shape
                    obtain ⟨gv, rfl, hBv, hTv, hsv, -, -, hrw⟩ := OwnRk.row hst2.own (Nat.le_refl _) (by omega)
                    obtain ⟨ai, ci, hck, hoi⟩ := hrw k (by omega)
                    have hrk := hrow2 k (by omega)
                    obtain ⟨gi, ci', he, hBi, hsi, hcell, hfz⟩ := OwnI.row hoi (by omega)
                    obtain ⟨rfl, rfl⟩ : ai = some ⟨gi, 0, none⟩ ∧ ci = ci' := by simpa using he
                    have hct := hcell t (by omega)
                    have hkl : k < l2.length := by omega
                    have htl2 : t < (rowI l2 k).length := by omega
                    have hft := hfz t
                    have k0 := hst2.box.out
                    have hbb := hst2.hb
                    have HS2 := Lib.hid hst2
                    have HR2 := Lib.hid hrow2
                    have HOI := Lib.hid hoi
                    have HCK := Lib.hid hck
                    clear hrw he hcell hfz hst2 hrow2 hoi
                    go_wp2
                    go_region_law ((first
                      | (go_simp; go_at_call 37; refine (pick_c g _ s _ (HS2.out.rd.ext (by (repeat (first | exact Ext.refl _ | assumption | refine Ext.alloc ?_ _ | refine Ext.drewN ?_ _ | refine Ext.drew ?_)))) (by omega)).mono ?_; rintro e wk ⟨y, rfl, hy, hrk2, htk⟩
                         have hmk := Lib.hid (ModelSt.drawn (HS2.out.ext (by (repeat (first | exact Ext.refl _ | assumption | refine Ext.alloc ?_ _ | refine Ext.drewN ?_ _ | refine Ext.drew ?_)))) htk hrk2)
                         have hkk := cell_drawn htk (by (repeat (first | exact Ext.refl _ | assumption | refine Ext.alloc ?_ _ | refine Ext.drewN ?_ _ | refine Ext.drew ?_))) (by omega) hsv hck
                         have hkt := cell_drawn htk (by (repeat (first | exact Ext.refl _ | assumption | refine Ext.alloc ?_ _ | refine Ext.drewN ?_ _ | refine Ext.drew ?_))) (by omega) hsi hct
                         have hkf := frozen_drawn htk (by (repeat (first | exact Ext.refl _ | assumption | refine Ext.alloc ?_ _ | refine Ext.drewN ?_ _ | refine Ext.drew ?_))) (by omega) hsi hft
                         have hko := Lib.hid (OwnI.drawn (OwnI.ext HOI.out (by (repeat (first | exact Ext.refl _ | assumption | refine Ext.alloc ?_ _ | refine Ext.drewN ?_ _ | refine Ext.drew ?_)))) htk (by omega))
                         have kk := hmk.out.box.out
                         have hzi : gi < wk.heap.size := by have := htk.size; (try simp at this); omega
                         have hpy := pow2_cast y
                         have hp1 : pow2 y ≤ 64 := pow2_le y 6 (by omega)
                         have hwy : IntKind.i64.wrap ((pow2 y : Nat) : Int) = ((pow2 y : Nat) : Int) := IntWalk.i64_in _ (by omega)
                         clear htk hrk2)
                      | fail))
                    all_goals
                      have hgr : wk.grownBy (wk.setCell ⟨gi, t, none⟩ (.int .i64 ((pow2 y : Nat) : Int))) (some gi) := grown_setCell ((Ext.refl wk).grown (some gi)) rfl
                      have hset : OwnI (wk.setCell ⟨gi, t, none⟩ (.int .i64 ((pow2 y : Nat) : Int))) B2 3 (.slice (some ⟨gi, 0, none⟩) (rowI l2 k).length ci) ((rowI l2 k).set t ((pow2 y : Nat) : Int)) := by
                        have := OwnI.set hko.out t ((pow2 y : Nat) : Int)
                        rw [List.length_set] at this
                        exact this
                      have hput := OwnR.put (by omega) hmk.out.own hkk (by rw [List.length_set]) hset hgr
                      have hnew := Lib.hid ((hmk.out.turned hput.2 hput.1).2.2.1 rfl)
                      clear hset hput hgr
                      go_wp2
                      go_roundw
                      case rel => exact Lib.hid ⟨t + 1, B2, T2, _, _, by omega, by go_num, by rw [List.length_set]; exact hm1, by rw [List.length_set]; exact hm2, rows_put HR2.out, hnew.out.mono (by omega)⟩
                      case measure => simp [intOf]; omega
                  · obtain rfl : t = s := by omega
                    go_wp2
                    go_roundw
                    case rel => exact Lib.hid ⟨k + 1, B2, T2, v2, l2, by omega, by go_num, hm1, hm2, hrow2, hst2.mono (by omega)⟩
                    case measure => simp [intOf]; omega
              · go_wp2
                go_meet
                case rel => exact Lib.hid ⟨B1, T1, v1, l1, hl1, hl2, hrow1, hst1.mono (by omega)⟩
          · go_wp2
            go_meet
            case rel => exact Lib.hid ⟨B0, T, v, ll, hlen3, h3, hrows, hst.mono (by omega)⟩
        case rest =>
          clear hst hrows h3 hlen3 hlt hx3
          obtain ⟨B1, T1, v1, l1, hl1, hl2, hrow1, hst1⟩ := hcut.out
          clear hcut
          go_wp2_with fail
          refine (oddN_c g _ 0 _ (hst1.rd.ext (by (repeat (first | exact Ext.refl _ | assumption | refine Ext.alloc ?_ _ | refine Ext.drewN ?_ _ | refine Ext.drew ?_)))) (by omega)).mono ?_
          rintro e wo ⟨hfo, b, -, hro, hto⟩
          obtain rfl := hfo rfl
          clear hfo
          have hst2 := ModelSt.mono (m' := m + 502) (ModelSt.drawn (hst1.ext (by (repeat (first | exact Ext.refl _ | assumption | refine Ext.alloc ?_ _ | refine Ext.drewN ?_ _ | refine Ext.drew ?_)))) hto hro) (by omega)
          clear hst1 hto hro
          have HR1 := Lib.hid hrow1
          clear hrow1
          obtain ⟨av, cv, rfl⟩ := hst2.own.shape
          have k1 := hst2.box.out
          have kr := hst2.res.out
          have fr := hst2.rth.2
          have zr := hst2.rth.1
          have hfin := Lib.hid hst2
          clear hst2
          go_wp2
          refine bodyPost_ret (v := .agg #[.int .i64 s, .int .i64 p, .int .i64 q, .slice av l1.length cv]) (by simp [results, Tryd.results20, go_sem, kr]) rfl ?_
          refine drewM0_of hfin.out (by omega) hs1 hs5 hl1 hl2 HR1.out ?_
          (repeat (first | exact Touched.refl _ _ _ | refine Touched.setIn ?_ (by dsimp only; omega) (by dsimp only; omega) _))
end Go.Proofs.YtlaamecfknkmlaaDoor
