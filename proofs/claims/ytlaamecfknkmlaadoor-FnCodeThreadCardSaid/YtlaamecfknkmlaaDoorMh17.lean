/- Merged texts: contracts and plain lemmas (Vc). -/
import Derived.Test.YtlaamecfknkmlaaDoorMh16
/- Contracts: certain models drawn. -/
namespace Go.Proofs.YtlaamecfknkmlaaDoor
set_option linter.unusedVariables false
open Go.RowKit Go.Kt

/-- While a model is made certain: its variable (block b6), the result's variable (the first block of the call's own), its rows (from block B0, below T), the reader. -/
structure CertSt (w wr : World) (g b6 B0 T m : Nat) (s p q : Int) (v : Value) (ll : List (List Int)) : Prop where
  hg : g < w.heap.size
  hw : w.heap.size < B0
  hb : T ≤ b6
  own : OwnR wr B0 T 3 29 v ll
  box : BoxM wr b6 s p q v
  res : BoxM wr w.heap.size 0 0 0 (.slice none 0 0)
  rth : Thawed wr w.heap.size
  rd : Rd wr g m
  tch : Touched w wr g (g + 1)
theorem CertSt.ext {w wr w' : World} {g b6 B0 T m : Nat} {s p q : Int} {v : Value} {ll : List (List Int)} (h : CertSt w wr g b6 B0 T m s p q v ll) (e : Ext wr w') : CertSt w w' g b6 B0 T m s p q v ll :=
  ⟨h.hg, h.hw, h.hb, h.own.ext e, h.box.ext e, h.res.ext e, h.rth.ext e, h.rd.ext e, h.tch.trans (Touched.of_ext e)⟩
theorem CertSt.mono {w wr : World} {g b6 B0 T m m' : Nat} {s p q : Int} {v : Value} {ll : List (List Int)} (h : CertSt w wr g b6 B0 T m s p q v ll) (hm : m ≤ m') : CertSt w wr g b6 B0 T m' s p q v ll :=
  ⟨h.hg, h.hw, h.hb, h.own, h.box, h.res, h.rth, h.rd.mono hm, h.tch⟩
theorem CertSt.drawn {w wr w' : World} {g b6 B0 T m m' : Nat} {s p q : Int} {v : Value} {ll : List (List Int)} (h : CertSt w wr g b6 B0 T m s p q v ll) (t : Touched wr w' g (g + 1)) (r : Rd w' g m') : CertSt w w' g b6 B0 T m' s p q v ll := by
  have h1 := h.hg; have h2 := h.hw; have h3 := h.hb; have h4 := OwnRk.base h.own
  exact ⟨h1, h2, h3, h.own.untouched t (.inr (by omega)), h.box.untouched t (.inr (by omega)), h.res.untouched t (.inr (by omega)), h.rth.untouched t (.inr (by omega)), r, h.tch.trans t⟩
theorem CertSt.put {w wX w' : World} {g b6 B0 T m : Nat} {s p q : Int} {v : Value} {ll ll' : List (List Int)} (h : CertSt w wX g b6 B0 T m s p q v ll) (t : Touched wX w' B0 T) (ho : OwnR w' B0 T 3 29 v ll') : CertSt w w' g b6 B0 T m s p q v ll' := by
  have h1 := h.hg; have h2 := h.hw; have h3 := h.hb; have h4 := OwnRk.base h.own
  exact ⟨h1, h2, h3, ho, h.box.untouched t (.inr (by omega)), h.res.untouched t (.inl (by omega)), h.rth.untouched t (.inl (by omega)), h.rd.untouched t (by omega), h.tch.high t (by omega)⟩
/-- What drawing a certain model comes to. -/
def DrewCe (w : World) (g m : Nat) (e : Ending) (w' : World) : Prop :=
  ∃ (s : Nat) (p q : Int) (a : Option Addr) (cap : Nat) (ll : List (List Int)), e = .returned (modelV s p q a ll.length cap) ∧ s ≤ 5 ∧ RowsFrom w' (w.heap.size + 1) a ll ∧ ll.length ≤ 3 ∧ (∀ i, i < ll.length → (rowI ll i).length ≤ 8) ∧ Rd w' g (m + 2000) ∧ Touched w w' g (g + 1)
theorem drewC_of {w wX w' : World} {g b6 B0 T m m' s cap : Nat} {p q : Int} {a : Option Addr} {ll : List (List Int)} (h : CertSt w wX g b6 B0 T m' s p q (.slice a ll.length cap) ll) (hm : m' ≤ m + 2000) (hs : s ≤ 5) (h3' : ll.length ≤ 3)
    (hrows : ∀ j, j < ll.length → s ≤ (rowI ll j).length ∧ (rowI ll j).length ≤ s + 1) (t : Touched wX w' w.heap.size (w.heap.size + 1)) : DrewCe w g m (.returned (modelV s p q a ll.length cap)) w' := by
  have e1 := h.hg; have e2 := h.hw; have e3 := h.hb
  exact ⟨s, p, q, a, cap, ll, rfl, hs, (h.own.rowsFrom.mono (B' := w.heap.size + 1) (by omega)).untouched t (Nat.le_refl _), h3', fun i hi => by have := hrows i hi; omega, (h.rd.untouched t e1).mono hm, h.tch.high t (Nat.le_refl _)⟩
set_option maxRecDepth 100000 in
set_option maxHeartbeats 2000000 in
theorem l20Certain_c (g m : Nat) (w : World) (h : Rd w g m) (hm : m ≤ 9000) :
    Calls Tryd.prog 36 #[.pointer (some ⟨g, 0, none⟩)] w (DrewCe w g m) := by
  have hg := h.lt
  have HH := Lib.hid h
  clear h
  go_enter Tryd.func36, Tryd.ntmps36
  go_wp2_with fail
  refine (l20Model0_c g m _ (HH.out.ext (by (repeat (first | exact Ext.refl _ | assumption | refine Ext.alloc ?_ _ | refine Ext.drewN ?_ _ | refine Ext.drew ?_)))) (by omega)).mono ?_
  rintro e w1 ⟨s, p, q, a1, c1, ll, B0, T, rfl, hs1, hs5, hB0, hown, hl3, hl3', hrows, hr1, ht1⟩
  simp only [World.size_alloc] at hB0
  have hb4 : BoxM w1 w.heap.size 0 0 0 (.slice none 0 0) := BoxM.untouched (by simp [BoxM, go_sem]) ht1 (.inr (by omega))
  have ht4 : Thawed w1 w.heap.size := Thawed.untouched ⟨by simp, fun o => by simp [go_sem]⟩ ht1 (.inr (by omega))
  have hz1 : w.heap.size < w1.heap.size := ht4.1
  replace ht1 : Touched w w1 g (g + 1) := Touched.trans (Touched.of_ext (by (repeat (first | exact Ext.refl _ | assumption | refine Ext.alloc ?_ _ | refine Ext.drewN ?_ _ | refine Ext.drew ?_)))) ht1
  have hT1 := hown.top'.2
  have HST : Hid (CertSt w (w1.alloc (.cells #[.int .i64 s, .int .i64 p, .int .i64 q, .slice a1 ll.length c1] 25)) g w1.heap.size B0 T (m + 1000) s p q (.slice a1 ll.length c1) ll) :=
    ⟨hg, by omega, hT1, hown.ext (by (repeat (first | exact Ext.refl _ | assumption | refine Ext.alloc ?_ _ | refine Ext.drewN ?_ _ | refine Ext.drew ?_))), by simp [BoxM, go_sem], hb4.ext (by (repeat (first | exact Ext.refl _ | assumption | refine Ext.alloc ?_ _ | refine Ext.drewN ?_ _ | refine Ext.drew ?_))), ht4.ext (by (repeat (first | exact Ext.refl _ | assumption | refine Ext.alloc ?_ _ | refine Ext.drewN ?_ _ | refine Ext.drew ?_))), hr1.ext (by (repeat (first | exact Ext.refl _ | assumption | refine Ext.alloc ?_ _ | refine Ext.drewN ?_ _ | refine Ext.drew ?_))), ht1.trans (Touched.of_ext (by (repeat (first | exact Ext.refl _ | assumption | refine Ext.alloc ?_ _ | refine Ext.drewN ?_ _ | refine Ext.drew ?_))))⟩
  have HRW := Lib.hid hrows
  clear hb4 ht4 ht1 hr1 hown hrows
  go_wp2
  go_loopw [4, 5] (fun i j wr => Hid (∃ (k : Nat) (ll : List (List Int)), k ≤ 3 ∧ i = .int .i64 k ∧ 3 ≤ ll.length ∧ ll.length ≤ 3 ∧ (∀ j, j < ll.length → s ≤ (rowI ll j).length ∧ (rowI ll j).length ≤ s + 1) ∧ CertSt w wr g w1.heap.size B0 T (m + 1000 + 20 * k) s p q (.slice a1 ll.length c1) ll)) (fun i _ _ => 3 - (intOf i).toNat)
  case atStart => exact Lib.hid ⟨0, ll, by omega, rfl, hl3, hl3', HRW.out, HST.out⟩
  case round =>
    clear HST HRW hl3 hl3'
    obtain ⟨k, l1, hk, rfl, hl1, hl2, hrow1, hst1⟩ := hrel.out
    clear hrel
    have HS1 := Lib.hid hst1
    have HR1 := Lib.hid hrow1
    clear hst1 hrow1
    by_cases hk3 : k < 3
    · have hkb : decide ((k : Int) < 3) = true := by simp; omega
      go_wp2_with fail
      refine (pick_c g _ 16 _ (HS1.out.rd.ext (by (repeat (first | exact Ext.refl _ | assumption | refine Ext.alloc ?_ _ | refine Ext.drewN ?_ _ | refine Ext.drew ?_)))) (by omega)).mono ?_
      rintro e wp ⟨x, rfl, hx, hrp, htp⟩
      have HS2 := Lib.hid (CertSt.mono (m' := m + 1000 + 20 * k + 1) (CertSt.drawn (HS1.out.ext (by (repeat (first | exact Ext.refl _ | assumption | refine Ext.alloc ?_ _ | refine Ext.drewN ?_ _ | refine Ext.drew ?_)))) htp hrp) (by omega))
      clear htp hrp HS1
      by_cases hx0 : x = 0
      · subst hx0
        have k1 := HS2.out.box.out
        have kr := HS2.out.res.out
        have fr := HS2.out.rth.2
        have zr := HS2.out.rth.1
        have zb := HS2.out.box.lt
        go_wp2
        refine bodyPost_ret (v := .agg #[.int .i64 s, .int .i64 p, .int .i64 q, .slice a1 l1.length c1]) (by simp [results, Tryd.results36, go_sem, kr]) rfl ?_
        refine drewC_of HS2.out (by omega) hs5 hl2 HR1.out ?_
        (repeat (first | exact Touched.refl _ _ _ | refine Touched.setIn ?_ (by dsimp only; omega) (by dsimp only; omega) _))
      · have hxb : decide ((0 : Int) < (x : Int)) = true := by simp; omega
        have hxc : decide (0 < x) = true := by simp; omega
        have hxd : 0 < x := by omega
        go_wp2
        go_loopw [5] (fun j wr => Hid (∃ (t : Nat) (ll : List (List Int)), t ≤ s ∧ j = .int .i64 t ∧ 3 ≤ ll.length ∧ ll.length ≤ 3 ∧ (∀ j, j < ll.length → s ≤ (rowI ll j).length ∧ (rowI ll j).length ≤ s + 1) ∧ CertSt w wr g w1.heap.size B0 T (m + 1000 + 20 * k + 1 + t) s p q (.slice a1 ll.length c1) ll)) (fun j _ => s - (intOf j).toNat)
        case atStart => exact Lib.hid ⟨0, l1, by omega, rfl, hl1, hl2, HR1.out, HS2.out⟩
        case round =>
          clear HS2 HR1 hl1 hl2
          obtain ⟨t, l2, ht, rfl, hm1, hm2, hrow2, hst2⟩ := hrel.out
          clear hrel
          by_cases htl : t < s
          · obtain ⟨gv, hgv, hBv, hTv, hsv, -, -, hrw⟩ := OwnRk.row hst2.own (Nat.le_refl _) (by omega)
            subst hgv
            obtain ⟨ai, ci, hck, hoi⟩ := hrw k (by omega)
            have hrk := hrow2 k (by omega)
            obtain ⟨gi, ci', he, hBi, hsi, hcell, hfz⟩ := OwnI.row hoi (by omega)
            obtain ⟨rfl, rfl⟩ : ai = some ⟨gi, 0, none⟩ ∧ ci = ci' := by simpa using he
            have hct := hcell t (by omega)
            have hkl : k < l2.length := by omega
            have htl2 : t < (rowI l2 k).length := by omega
            have hft := hfz t
            have k0 := hst2.box.out
            have zb := hst2.box.lt
            have hbb := hst2.hb
            have hww := hst2.hw
            have HS2 := Lib.hid hst2
            have HR2 := Lib.hid hrow2
            have HOI := Lib.hid hoi
            clear hrw he hcell hfz hst2 hrow2 hoi
            go_wp2
            go_region_law ((first
              | (go_simp; go_at_call 37; refine (pick_c g _ s _ (HS2.out.rd.ext (by (repeat (first | exact Ext.refl _ | assumption | refine Ext.alloc ?_ _ | refine Ext.drewN ?_ _ | refine Ext.drew ?_)))) (by omega)).mono ?_; rintro e wk ⟨y, rfl, hy, hrk2, htk⟩
                 have hmk := Lib.hid (CertSt.drawn (HS2.out.ext (by (repeat (first | exact Ext.refl _ | assumption | refine Ext.alloc ?_ _ | refine Ext.drewN ?_ _ | refine Ext.drew ?_)))) htk hrk2)
                 have hkk := cell_drawn htk (by (repeat (first | exact Ext.refl _ | assumption | refine Ext.alloc ?_ _ | refine Ext.drewN ?_ _ | refine Ext.drew ?_))) (by omega) hsv hck
                 have hkt := cell_drawn htk (by (repeat (first | exact Ext.refl _ | assumption | refine Ext.alloc ?_ _ | refine Ext.drewN ?_ _ | refine Ext.drew ?_))) (by omega) hsi hct
                 have hkf := frozen_drawn htk (by (repeat (first | exact Ext.refl _ | assumption | refine Ext.alloc ?_ _ | refine Ext.drewN ?_ _ | refine Ext.drew ?_))) (by omega) hsi hft
                 have hko := Lib.hid (OwnI.drawn (OwnI.ext HOI.out (by (repeat (first | exact Ext.refl _ | assumption | refine Ext.alloc ?_ _ | refine Ext.drewN ?_ _ | refine Ext.drew ?_)))) htk (by omega))
                 have kk := hmk.out.box.out
                 have hzi : gi < wk.heap.size := by have := htk.size; (try simp at this); omega
                 have hpy := pow2_cast y
                 have hp1 : pow2 y ≤ 64 := pow2_le y 6 (by omega)
                 have hwy : IntKind.i64.wrap ((pow2 y : Nat) : Int) = ((pow2 y : Nat) : Int) := IntWalk.i64_in _ (by omega)
                 clear htk hrk2)
              | fail))
            all_goals
              have hgr : wk.grownBy (wk.setCell ⟨gi, t, none⟩ (.int .i64 ((pow2 y : Nat) : Int))) (some gi) := grown_setCell ((Ext.refl wk).grown (some gi)) rfl
              have hset : OwnI (wk.setCell ⟨gi, t, none⟩ (.int .i64 ((pow2 y : Nat) : Int))) B0 3 (.slice (some ⟨gi, 0, none⟩) (rowI l2 k).length ci) ((rowI l2 k).set t ((pow2 y : Nat) : Int)) := by
                have := OwnI.set hko.out t ((pow2 y : Nat) : Int)
                rw [List.length_set] at this
                exact this
              have hput := OwnR.put (by omega) hmk.out.own hkk (by rw [List.length_set]) hset hgr
              have hnew := Lib.hid (hmk.out.put hput.2 hput.1)
              have hln : (l2.set k ((rowI l2 k).set t ((pow2 y : Nat) : Int))).length = l2.length := by rw [List.length_set]
              clear hset hput hgr
              go_wp2
              go_roundw
              case rel => exact Lib.hid ⟨t + 1, _, by omega, by go_num, by rw [hln]; exact hm1, by rw [hln]; exact hm2, rows_put HR2.out, by rw [hln]; exact hnew.out.mono (by omega)⟩
              case measure => simp [intOf]; omega
          · obtain rfl : t = s := by omega
            have k0 := hst2.box.out
            have zb := hst2.box.lt
            have HS2 := Lib.hid hst2
            clear hst2
            go_wp2
            go_roundw
            case rel => exact Lib.hid ⟨k + 1, l2, by omega, by go_num, hm1, hm2, hrow2, HS2.out.mono (by omega)⟩
            case measure => simp [intOf]; omega
    · have k1 := HS1.out.box.out
      have kr := HS1.out.res.out
      have fr := HS1.out.rth.2
      have zr := HS1.out.rth.1
      have zb := HS1.out.box.lt
      go_wp2
      refine bodyPost_ret (v := .agg #[.int .i64 s, .int .i64 p, .int .i64 q, .slice a1 l1.length c1]) (by simp [results, Tryd.results36, go_sem, kr]) rfl ?_
      refine drewC_of HS1.out (by omega) hs5 hl2 HR1.out ?_
      (repeat (first | exact Touched.refl _ _ _ | refine Touched.setIn ?_ (by dsimp only; omega) (by dsimp only; omega) _))
end Go.Proofs.YtlaamecfknkmlaaDoor
