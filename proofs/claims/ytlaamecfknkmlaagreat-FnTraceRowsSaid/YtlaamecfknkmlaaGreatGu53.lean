/- Merged texts: contracts and plain lemmas (LTraceRows). -/
import Derived.Test.YtlaamecfknkmlaaGreatGu23
import Derived.Test.YtlaamecfknkmlaaGreatGu46
import Derived.Test.YtlaamecfknkmlaaGreatGu49
import Derived.Test.YtlaamecfknkmlaaGreatGu51
import Derived.Test.YtlaamecfknkmlaaGreatGu50
import Derived.Test.YtlaamecfknkmlaaGreatGu39
import Derived.Test.YtlaamecfknkmlaaGreatGu52
import Derived.Deep.RegionHeld3
import Derived.Lib.QuietBelow
import Derived.Maps.RangeWalk
/- For all bytes: the rows of a trace drawn, and a trace of an expression leads nowhere where the expression does not (FnTraceRows). -/
namespace Go.Proofs.YtlaamecfknkmlaaGreat
set_option linter.unusedVariables false
open Go.RowKit Go.Kt Go.Sort

theorem traceF_rel {st : Nat} {p q : Int} {ll : List (List Int)} {l : List Int} (hm : mvB st p q ll = true) (hv : tvB l = true) : Rel st (traceF st p q ll l) := by
  obtain ⟨sn, P, Q, hsn, rfl, rfl, b1, b2, b3, b4, b5, b6, b7, b8⟩ := mvB_bounds hm
  obtain rfl : st = sn := by omega
  have hl := tvB_len hv
  unfold traceF
  rw [hm, hv, Int.toNat_natCast]
  exact trRows_rel (p := P) (q := Q) (by omega) (fun i hi => rvB_relK (b8 i hi)) hv (l.length / 2) (by omega)
theorem wp_region_below_lit {P : Program} {id : Nat} {Q : Exit → Act → World → Prop} {a : Act} {w : World} {ops : Array Oper} (hm : P.follows .mixedOrders = true) (hB : Region.lexB .any ops = true)
    (h : wpQuiet P ops (fun w' => ∃ p : Regrown, w' = grow (redrawn w p.d) p.os) (fun a' => ∀ w', (∃ p : Regrown, w' = grow (redrawn w p.d) p.os) → Q .normal a' w') ops.toList a) : (Code.region id ops true).wp P Q a w := by
  obtain ⟨l⟩ := ops
  exact wp_region_quiet_below hm hB h
/-- What stands at every call of the last statement. -/
abbrev HeldB (z : Nat) (st p q : Int) (v : Value) (w5 w' : World) : Prop := (w'.cell? ⟨z, 0, none⟩ = some (.int .i64 st) ∧ w'.cell? ⟨z, 1, none⟩ = some (.int .i64 p) ∧ w'.cell? ⟨z, 2, none⟩ = some (.int .i64 q) ∧ w'.cell? ⟨z, 3, none⟩ = some v) ∧ Ext w5 w'
theorem HeldB.more {z : Nat} {st p q : Int} {v : Value} {w5 w w' : World} (h : HeldB z st p q v w5 w) (e : Ext w w') : HeldB z st p q v w5 w' :=
  ⟨BoxM.ext (show BoxM w z st p q v from h.1) e, h.2.trans e⟩
theorem HeldB.start {z : Nat} {st p q : Int} {v : Value} {w5 w' : World} (h : BoxM w5 z st p q v) (e : Ext w5 w') : HeldB z st p q v w5 w' := ⟨h.ext e, e⟩
theorem under_of (a b : Option Addr) (ca cb st : Nat) (la lb : List Int) (w : World) (ha : IntsAt w a la) (hb : IntsAt w b lb) (ra : Rel st la) (rb : Rel st lb) (hs : ∀ i, i < st → Sub (natAt la i) (natAt lb i)) :
    Calls Tryz.prog 35 #[.slice a la.length ca, .slice b lb.length cb] w fun e w' => e = .returned (.bool true) ∧ Ext w w' := by
  have l1 := ra.len
  have l2 := rb.len
  have l3 := ra.le
  exact under_c a b ca cb la lb w ha hb (by omega) (by omega) ra.sets rb.sets (fun i hi => hs i (by omega))
set_option maxRecDepth 100000 in
set_option maxHeartbeats 4000000 in
theorem fnTraceRows_c (a0 : Option Addr) (c0 : Nat) (l0 : List Int) (a1 : Option Addr) (c1 : Nat) (l1 : List Int) (w : World) (h0 : BytesAt w a0 l0) (hlen0 : l0.length ≤ 9223372036854775807) (hcap0 : l0.length ≤ c0) (h1 : BytesAt w a1 l1) (hlen1 : l1.length ≤ 9223372036854775807) (hcap1 : l1.length ≤ c1) :
    Calls Tryz.prog 6 #[.slice a0 l0.length c0, .slice a1 l1.length c1] w fun e w' => e = .returned (.bool true) ∧ Ext w w' := by
  by_cases hb0 : l0.length ≤ 1048576
  · by_cases hb1 : l1.length ≤ 1048576
    · go_enter Tryz.func6, Tryz.ntmps6
      go_wp2_with fail
      refine (drawTraceRows_c a0 c0 l0 _ h0 hb0 hcap0).mono ?_
      rintro e w1 ⟨st, p, q, a, cap, ll, v6, T, rfl, hst, hr, hlc, h3, h8, o6, hT, hx⟩
      obtain ⟨a6, c6, rfl, i6⟩ := o6.shape
      have H8 := Lib.hid (fun i hi => Nat.le_trans (h8 i hi) (show 8 ≤ 4194304 by omega))
      have hr1 := Lib.hid hr
      have hx1 := Lib.hid hx
      have hi1 := Lib.hid i6
      have hB1 := Lib.hid (h1.ext hx)
      clear h8 hr hx o6 i6
      go_wp2_with fail
      refine (iTraceRows_c st p q a cap ll a6 c6 T _ (hr1.out.ext (by (repeat (first | exact Ext.refl _ | assumption | refine Ext.alloc ?_ _ | refine Ext.drewN ?_ _ | refine Ext.drew ?_)))) (by omega) H8.out (hi1.out.ext (by (repeat (first | exact Ext.refl _ | assumption | refine Ext.alloc ?_ _ | refine Ext.drewN ?_ _ | refine Ext.drew ?_)))) (by omega)).mono ?_
      rintro e w2 ⟨v7, rfl, o7, y⟩
      obtain ⟨a7, c7, rfl, i7⟩ := o7.shape
      have hb2 := Lib.hid ((box_made w1 37 st p q (.slice a ll.length cap)).ext y)
      have k2 := hb2.out.out
      have hB2 := Lib.hid ((hB1.out.ext (by (repeat (first | exact Ext.refl _ | assumption | refine Ext.alloc ?_ _ | refine Ext.drewN ?_ _ | refine Ext.drew ?_)))).ext y)
      have hr2 := Lib.hid ((hr1.out.ext (by (repeat (first | exact Ext.refl _ | assumption | refine Ext.alloc ?_ _ | refine Ext.drewN ?_ _ | refine Ext.drew ?_)))).ext y)
      have hi2 := Lib.hid ((hi1.out.ext (by (repeat (first | exact Ext.refl _ | assumption | refine Ext.alloc ?_ _ | refine Ext.drewN ?_ _ | refine Ext.drew ?_)))).ext y)
      have hx2 := Lib.hid ((hx1.out.trans (by (repeat (first | exact Ext.refl _ | assumption | refine Ext.alloc ?_ _ | refine Ext.drewN ?_ _ | refine Ext.drew ?_)))).trans y)
      have hF2 := Lib.hid i7
      have hFl := traceF_len st p q ll T
      clear y hr1 hx1 hi1 o7 i7
      go_wp2_with fail
      refine (sTraceRows_c st p q a cap ll a6 c6 T _ (hr2.out.ext (by (repeat (first | exact Ext.refl _ | assumption | refine Ext.alloc ?_ _ | refine Ext.drewN ?_ _ | refine Ext.drew ?_)))) (by omega) H8.out (hi2.out.ext (by (repeat (first | exact Ext.refl _ | assumption | refine Ext.alloc ?_ _ | refine Ext.drewN ?_ _ | refine Ext.drew ?_)))) (by omega)).mono ?_
      rintro e w3 ⟨v8, rfl, o8, y⟩
      obtain ⟨a8, c8, rfl, i8⟩ := o8.shape
      have hb3 := Lib.hid ((hb2.out.ext (by (repeat (first | exact Ext.refl _ | assumption | refine Ext.alloc ?_ _ | refine Ext.drewN ?_ _ | refine Ext.drew ?_)))).ext y)
      have k3 := hb3.out.out
      have hB3 := Lib.hid ((hB2.out.ext (by (repeat (first | exact Ext.refl _ | assumption | refine Ext.alloc ?_ _ | refine Ext.drewN ?_ _ | refine Ext.drew ?_)))).ext y)
      have hr3 := Lib.hid ((hr2.out.ext (by (repeat (first | exact Ext.refl _ | assumption | refine Ext.alloc ?_ _ | refine Ext.drewN ?_ _ | refine Ext.drew ?_)))).ext y)
      have hi3 := Lib.hid ((hi2.out.ext (by (repeat (first | exact Ext.refl _ | assumption | refine Ext.alloc ?_ _ | refine Ext.drewN ?_ _ | refine Ext.drew ?_)))).ext y)
      have hx3 := Lib.hid ((hx2.out.trans (by (repeat (first | exact Ext.refl _ | assumption | refine Ext.alloc ?_ _ | refine Ext.drewN ?_ _ | refine Ext.drew ?_)))).trans y)
      have hF3 := Lib.hid ((hF2.out.ext (by (repeat (first | exact Ext.refl _ | assumption | refine Ext.alloc ?_ _ | refine Ext.drewN ?_ _ | refine Ext.drew ?_)))).ext y)
      have hG3 := Lib.hid i8
      clear y k2 hb2 hr2 hx2 hi2 hF2 o8 i8
      have hq : (traceF st p q ll T == traceF st p q ll T) = true := by simp
      go_wp2_with fail
      refine (sameInts_c a7 a8 c7 c8 _ _ _ (hF3.out.ext (by (repeat (first | exact Ext.refl _ | assumption | refine Ext.alloc ?_ _ | refine Ext.drewN ?_ _ | refine Ext.drew ?_)))) (hG3.out.ext (by (repeat (first | exact Ext.refl _ | assumption | refine Ext.alloc ?_ _ | refine Ext.drewN ?_ _ | refine Ext.drew ?_)))) (by omega) (by omega)).mono ?_
      rw [hq]
      rintro e w4 ⟨rfl, y⟩
      have hb4 := Lib.hid ((hb3.out.ext (by (repeat (first | exact Ext.refl _ | assumption | refine Ext.alloc ?_ _ | refine Ext.drewN ?_ _ | refine Ext.drew ?_)))).ext y)
      have k4 := hb4.out.out
      have hB4 := Lib.hid ((hB3.out.ext (by (repeat (first | exact Ext.refl _ | assumption | refine Ext.alloc ?_ _ | refine Ext.drewN ?_ _ | refine Ext.drew ?_)))).ext y)
      have hr4 := Lib.hid ((hr3.out.ext (by (repeat (first | exact Ext.refl _ | assumption | refine Ext.alloc ?_ _ | refine Ext.drewN ?_ _ | refine Ext.drew ?_)))).ext y)
      have hi4 := Lib.hid ((hi3.out.ext (by (repeat (first | exact Ext.refl _ | assumption | refine Ext.alloc ?_ _ | refine Ext.drewN ?_ _ | refine Ext.drew ?_)))).ext y)
      have hx4 := Lib.hid ((hx3.out.trans (by (repeat (first | exact Ext.refl _ | assumption | refine Ext.alloc ?_ _ | refine Ext.drewN ?_ _ | refine Ext.drew ?_)))).trans y)
      have hF4 := Lib.hid ((hF3.out.ext (by (repeat (first | exact Ext.refl _ | assumption | refine Ext.alloc ?_ _ | refine Ext.drewN ?_ _ | refine Ext.drew ?_)))).ext y)
      clear y k3 hb3 hr3 hx3 hi3 hF3 hG3 hq
      cases hv : (mvB st p q ll && tvB T)
      · have e0 : traceF st p q ll T = [] := by unfold traceF; rw [hv]; rfl
        rw [e0]
        clear hv
        go_wp2_with fail
        refine (alive_c _).mono ?_
        rintro e w5 ⟨rfl, rfl⟩
        go_wp2
        go_ret
        exact ⟨rfl, hx4.out.trans (by (repeat (first | exact Ext.refl _ | assumption | refine Ext.alloc ?_ _ | refine Ext.drewN ?_ _ | refine Ext.drew ?_)))⟩
      · rw [Bool.and_eq_true] at hv
        have hmv := Lib.hid hv.1
        have htv := Lib.hid hv.2
        have hn0 : 0 < (traceF st p q ll T).length := by
          obtain ⟨sn, P, Q, hsn, rfl, rfl, b1, b2, b3, b4, b5, b6, b7, b8⟩ := mvB_bounds hv.1
          obtain rfl : st = sn := by omega
          have hl := tvB_len hv.2
          have := (trRows_rel (p := P) (q := Q) (by omega) (fun i hi => rvB_relK (b8 i hi)) hv.2 (T.length / 2) (by omega)).len
          unfold traceF
          rw [hv.1, hv.2, Int.toNat_natCast]
          simp [this]; omega
        have hne : (((traceF st p q ll T).length : Int) == 0) = false := by rw [beq_eq_false_iff_ne]; omega
        clear hv
        go_wp2_with fail
        refine (drawTraceBy_c a1 c1 l1 _ (hB4.out.ext (by (repeat (first | exact Ext.refl _ | assumption | refine Ext.alloc ?_ _ | refine Ext.drewN ?_ _ | refine Ext.drew ?_)))) hb1 hcap1).mono ?_
        rintro e w5 ⟨v8, v9, E8, T9, rfl, o8, o9, hE8, hT9, y⟩
        obtain ⟨a8, c8, rfl, i8⟩ := o8.shape
        obtain ⟨a9, c9, rfl, i9⟩ := o9.shape
        have hf8 := o8.fit
        have he8 := o8.intsE
        have hb5 := (hb4.out.ext (by (repeat (first | exact Ext.refl _ | assumption | refine Ext.alloc ?_ _ | refine Ext.drewN ?_ _ | refine Ext.drew ?_)))).ext y
        have hr5 := (hr4.out.ext (by (repeat (first | exact Ext.refl _ | assumption | refine Ext.alloc ?_ _ | refine Ext.drewN ?_ _ | refine Ext.drew ?_)))).ext y
        have hi5 := (hi4.out.ext (by (repeat (first | exact Ext.refl _ | assumption | refine Ext.alloc ?_ _ | refine Ext.drewN ?_ _ | refine Ext.drew ?_)))).ext y
        have hx5 := Lib.hid ((hx4.out.trans (by (repeat (first | exact Ext.refl _ | assumption | refine Ext.alloc ?_ _ | refine Ext.drewN ?_ _ | refine Ext.drew ?_)))).trans y)
        have hF5 := (hF4.out.ext (by (repeat (first | exact Ext.refl _ | assumption | refine Ext.alloc ?_ _ | refine Ext.drewN ?_ _ | refine Ext.drew ?_)))).ext y
        have hm := hmv.out
        obtain ⟨sn, P, Q, hsn, rfl, rfl, b1, b2, b3, b4, b5, b6, b7, b8⟩ := mvB_bounds hm
        obtain rfl : st = sn := by omega
        have RT : Rel st (traceF st P Q ll T) := traceF_rel hm htv.out
        have hUx : tbB E8 T = true → ∀ i, i < st → Sub (natAt (traceF st P Q ll T) i) (natAt (rowsF st P Q ll E8) i) := fun h => trace_under hm h
        have hUy : tbB E8 T9 = true → ∀ i, i < st → Sub (natAt (traceF st P Q ll T9) i) (natAt (rowsF st P Q ll E8) i) := fun h => trace_under hm h
        have hRE : ∀ t, tbB E8 t = true → Rel st (rowsF st P Q ll E8) := fun t h => rowsF_rel hm (by unfold tbB at h; rw [Bool.and_eq_true] at h; exact h.1)
        have hRY : tbB E8 T9 = true → Rel st (traceF st P Q ll T9) := fun h => traceF_rel hm (by unfold tbB at h; rw [Bool.and_eq_true, Bool.and_eq_true] at h; exact h.2.1)
        have CV : Hid (∀ w', Ext w5 w' → Calls Tryz.prog 34 #[.int .i64 st, .slice a7 (traceF st P Q ll T).length c7] w' fun e w'' => e = .returned (.bool true) ∧ Ext w' w'') := fun w' x => by
          have := iRowsValid_c st a7 c7 (traceF st P Q ll T) w' (hF5.ext x) (by have := RT.len; omega)
          rw [rvB_rel (by omega) (by omega) RT] at this; exact this
        have CT1 : Hid (∀ w', Ext w5 w' → Calls Tryz.prog 16 #[.slice a8 E8.length c8, .slice a9 T9.length c9] w' fun r w'' => r = .returned (.bool (tbB E8 T9)) ∧ Ext w' w'') := fun w' x => traceBy_c a8 a9 c8 c9 E8 T9 w' (he8.ext x) hf8 (i9.ext x) (by omega) (by omega)
        have CT2 : Hid (∀ w', Ext w5 w' → Calls Tryz.prog 16 #[.slice a8 E8.length c8, .slice a6 T.length c6] w' fun r w'' => r = .returned (.bool (tbB E8 T)) ∧ Ext w' w'') := fun w' x => traceBy_c a8 a6 c8 c6 E8 T w' (he8.ext x) hf8 (hi5.ext x) (by omega) (by omega)
        have CTR : Hid (∀ w', Ext w5 w' → Calls Tryz.prog 31 #[modelV st P Q a ll.length cap, .slice a9 T9.length c9] w' (RetI 3 w' (traceF st P Q ll T9))) := fun w' x => iTraceRows_c st P Q a cap ll a9 c9 T9 w' (hr5.ext x) (by omega) H8.out (i9.ext x) (by omega)
        have CR : Hid (∀ w', Ext w5 w' → Calls Tryz.prog 36 #[modelV st P Q a ll.length cap, .slice a8 E8.length c8] w' (RetI 3 w' (rowsF st P Q ll E8))) := fun w' x => iRowsOf_c st P Q a cap ll a8 c8 E8 w' (hr5.ext x) (by omega) H8.out (i8.ext x) (by omega)
        have CU1 : Hid (tbB E8 T9 = true → ∀ w' at_ ct ar cr, IntsAt w' at_ (traceF st P Q ll T9) → IntsAt w' ar (rowsF st P Q ll E8) → Calls Tryz.prog 35 #[.slice at_ (traceF st P Q ll T9).length ct, .slice ar (rowsF st P Q ll E8).length cr] w' fun e w'' => e = .returned (.bool true) ∧ Ext w' w'') := fun h w' at_ ct ar cr g1 g2 => under_of at_ ar ct cr st _ _ w' g1 g2 (hRY h) (hRE _ h) (hUy h)
        have CU2 : Hid (tbB E8 T = true → ∀ w' ar cr, Ext w5 w' → IntsAt w' ar (rowsF st P Q ll E8) → Calls Tryz.prog 35 #[.slice a7 (traceF st P Q ll T).length c7, .slice ar (rowsF st P Q ll E8).length cr] w' fun e w'' => e = .returned (.bool true) ∧ Ext w' w'') := fun h w' ar cr x g2 => under_of a7 ar c7 cr st _ _ w' (hF5.ext x) g2 RT (hRE _ h) (hUx h)
        have HB5 := Lib.hid hb5
        clear hb5 hr5 hi5 hF5 hm RT hUx hUy hRE hRY hb4 hr4 hi4 hx4 hF4 hmv htv k4 b3 b4 b5 b6 b7 b8 hE8 hT9 o8 o9 i8 i9 hf8 he8 y hn0 hFl hB4 H8
        generalize traceF st P Q ll T = X at *
        generalize traceF st P Q ll T9 = Y at *
        generalize rowsF st P Q ll E8 = R at *
        generalize tbB E8 T9 = B1 at *
        generalize tbB E8 T = B2 at *
        cases B1
        · cases B2
          · as_aux_lemma =>
              go_wp2
              have k0 := cell_regrown (HB5.out.1)
              have k1 := cell_regrown (HB5.out.2.1)
              have k2 := cell_regrown (HB5.out.2.2.1)
              have k3' := cell_regrown (HB5.out.2.2.2)
              have cV : ∀ d os, Calls Tryz.prog 34 #[.int .i64 st, .slice a7 X.length c7] (grow (redrawn w5 d) os) fun e w'' => e = .returned (.bool true) ∧ ∃ p : Regrown, w'' = grow (redrawn w5 p.d) p.os := fun d os => Calls.regrown_of (CV.out _ (below_regrown w5 d os))
              have c1' : ∀ d os, Calls Tryz.prog 16 #[.slice a8 E8.length c8, .slice a9 T9.length c9] (grow (redrawn w5 d) os) fun e w'' => e = .returned (.bool false) ∧ ∃ p : Regrown, w'' = grow (redrawn w5 p.d) p.os := fun d os => Calls.regrown_of (CT1.out _ (below_regrown w5 d os))
              have c2' : ∀ d os, Calls Tryz.prog 16 #[.slice a8 E8.length c8, .slice a6 T.length c6] (grow (redrawn w5 d) os) fun e w'' => e = .returned (.bool false) ∧ ∃ p : Regrown, w'' = grow (redrawn w5 p.d) p.os := fun d os => Calls.regrown_of (CT2.out _ (below_regrown w5 d os))
              clear CV CT1 CT2 CTR CR CU1 CU2 HB5
              refine wp_region_below_lit (by kernel_rfl) (by kernel_rfl) ?_
              quiet_step (fail)
              repeat
                (with_reducible refine wpQuiet_step (fun K hK => ?_))
                go_simp
                first
                  | (with_reducible refine hK _ ?_; clear hK K)
                  | (apply Exists.intro
                     refine ⟨fun _ => ?_, hK _ ?_⟩
                     (first | (go_at_call 34; exact cV _ _) | (go_at_call 16; first | with_reducible exact c1' _ _ | with_reducible exact c2' _ _))
                     clear hK K)
              (with_reducible refine wpQuiet_nil ?_)
              intro _ hw'
              obtain ⟨⟨dq, osq⟩, hw''⟩ := hw'
              subst hw''
              have HE := hx5.out.trans (below_regrown w5 dq osq)
              go_wp2
              go_ret
              exact ⟨rfl, HE⟩
          · as_aux_lemma =>
              go_wp2
              have K0 := HeldB.start HB5.out (show Ext w5 w5.drew by (repeat (first | exact Ext.refl _ | assumption | refine Ext.alloc ?_ _ | refine Ext.drewN ?_ _ | refine Ext.drew ?_)))
              refine wp_region_held_drew (S := HeldB w1.heap.size st P Q (.slice a ll.length cap) w5) (by kernel_rfl) K0 (fun hHeld => ?_)
              (refine wpAnyH_take (i := 0) (v := ?v0b) (by simp only [List.getElem?_toArray, List.getElem?_cons_zero]; rfl) (by kernel_rfl) (by kernel_rfl) (by kernel_rfl) (by exact fun _ _ _ h => h) (Or.inl ⟨by rfl, ?y0b⟩) (by assumption) ?r0b)
              case y0b =>
                intro w hSw
                obtain ⟨⟨hs0, hs1, hs2, hs3⟩, -⟩ := hSw
                go_simp
                all_goals (with_reducible rfl)
              case r0b =>
                (try go_frame)
                (refine wpAnyH_take (i := 1) (v := ?v1b) (by simp only [List.getElem?_toArray, List.getElem?_cons_succ, List.getElem?_cons_zero]; rfl) (by kernel_rfl) (by kernel_rfl) (by kernel_rfl) (by exact fun _ _ _ h => h) (Or.inl ⟨by rfl, ?y1b⟩) (by assumption) ?r1b)
                case y1b =>
                  intro w hSw
                  obtain ⟨⟨hs0, hs1, hs2, hs3⟩, -⟩ := hSw
                  go_simp
                  all_goals (with_reducible rfl)
                case r1b =>
                  (try go_frame)
                  (refine wpAnyH_take (i := 2) (v := ?v2b) (by simp only [List.getElem?_toArray, List.getElem?_cons_succ, List.getElem?_cons_zero]; rfl) (by kernel_rfl) (by kernel_rfl) (by kernel_rfl) (by exact fun _ _ _ h => h) (Or.inl ⟨by rfl, ?y2b⟩) (by assumption) ?r2b)
                  case y2b =>
                    intro w hSw
                    obtain ⟨⟨hs0, hs1, hs2, hs3⟩, -⟩ := hSw
                    go_simp
                    all_goals (with_reducible rfl)
                  case r2b =>
                    (try go_frame)
                    refine wpAnyH_ready (rs := [3]) (by kernel_rfl) (by simp) ?_
                    refine AllReadyH.cons (by simp only [List.getElem?_toArray, List.getElem?_cons_succ, List.getElem?_cons_zero]; rfl) (fun K hK => ?_) AllReadyH.nil
                    go_simp
                    (go_at_call 34; refine (CV.out _ (And.right (show HeldB w1.heap.size st P Q (.slice a ll.length cap) w5 _ by assumption))).mono ?_; rintro e wk ⟨rfl, yk⟩)
                    refine hK.out _ _ ?_ (fun hHeld => ?_)
                    · exact HeldB.more (by assumption) yk
                    clear hK K
                    (try go_frame)
                    (refine wpAnyH_take (i := 4) (v := ?v4b) (by simp only [List.getElem?_toArray, List.getElem?_cons_succ, List.getElem?_cons_zero]; rfl) (by kernel_rfl) (by kernel_rfl) (by kernel_rfl) (by exact fun _ _ _ h => h) (Or.inl ⟨by rfl, ?y4b⟩) (by assumption) ?r4b)
                    case y4b =>
                      intro w hSw
                      obtain ⟨⟨hs0, hs1, hs2, hs3⟩, -⟩ := hSw
                      go_simp
                      all_goals (with_reducible rfl)
                    case r4b =>
                      (try go_frame)
                      (refine wpAnyH_take (i := 5) (v := ?v5b) (by simp only [List.getElem?_toArray, List.getElem?_cons_succ, List.getElem?_cons_zero]; rfl) (by kernel_rfl) (by kernel_rfl) (by kernel_rfl) (by exact fun _ _ _ h => h) (Or.inl ⟨by rfl, ?y5b⟩) (by assumption) ?r5b)
                      case y5b =>
                        intro w hSw
                        obtain ⟨⟨hs0, hs1, hs2, hs3⟩, -⟩ := hSw
                        go_simp
                        all_goals (with_reducible rfl)
                      case r5b =>
                        (try go_frame)
                        (refine wpAnyH_take (i := 6) (v := ?v6b) (by simp only [List.getElem?_toArray, List.getElem?_cons_succ, List.getElem?_cons_zero]; rfl) (by kernel_rfl) (by kernel_rfl) (by kernel_rfl) (by exact fun _ _ _ h => h) (Or.inl ⟨by rfl, ?y6b⟩) (by assumption) ?r6b)
                        case y6b =>
                          intro w hSw
                          obtain ⟨⟨hs0, hs1, hs2, hs3⟩, -⟩ := hSw
                          go_simp
                          all_goals (with_reducible rfl)
                        case r6b =>
                          (try go_frame)
                          refine wpAnyH_ready (rs := [7]) (by kernel_rfl) (by simp) ?_
                          refine AllReadyH.cons (by simp only [List.getElem?_toArray, List.getElem?_cons_succ, List.getElem?_cons_zero]; rfl) (fun K hK => ?_) AllReadyH.nil
                          go_simp
                          (go_at_call 16; (with_reducible refine (CT1.out _ (And.right (show HeldB w1.heap.size st P Q (.slice a ll.length cap) w5 _ by assumption))).mono ?_); rintro e wk ⟨rfl, yk⟩)
                          refine hK.out _ _ ?_ (fun hHeld => ?_)
                          · exact HeldB.more (by assumption) yk
                          clear hK K
                          (try go_frame)
                          (refine wpAnyH_take (i := 8) (v := ?v8b) (by simp only [List.getElem?_toArray, List.getElem?_cons_succ, List.getElem?_cons_zero]; rfl) (by kernel_rfl) (by kernel_rfl) (by kernel_rfl) (by exact fun _ _ _ h => h) (Or.inl ⟨by rfl, ?y8b⟩) (by assumption) ?r8b)
                          case y8b =>
                            intro w hSw
                            obtain ⟨⟨hs0, hs1, hs2, hs3⟩, -⟩ := hSw
                            go_simp
                            all_goals (with_reducible rfl)
                          case r8b =>
                            (try go_frame)
                            (refine wpAnyH_take (i := 9) (v := ?v9b) (by simp only [List.getElem?_toArray, List.getElem?_cons_succ, List.getElem?_cons_zero]; rfl) (by kernel_rfl) (by kernel_rfl) (by kernel_rfl) (by exact fun _ _ _ h => h) (Or.inl ⟨by rfl, ?y9b⟩) (by assumption) ?r9b)
                            case y9b =>
                              intro w hSw
                              obtain ⟨⟨hs0, hs1, hs2, hs3⟩, -⟩ := hSw
                              go_simp
                              all_goals (with_reducible rfl)
                            case r9b =>
                              (try go_frame)
                              (refine wpAnyH_take (i := 10) (v := undef) (by simp only [List.getElem?_toArray, List.getElem?_cons_succ, List.getElem?_cons_zero]; rfl) (by kernel_rfl) (by kernel_rfl) (by kernel_rfl) (by exact fun _ _ _ h => h) (Or.inr ⟨by rfl, rfl⟩) (by assumption) ?_)
                              (try go_frame)
                              (refine wpAnyH_take (i := 11) (v := undef) (by simp only [List.getElem?_toArray, List.getElem?_cons_succ, List.getElem?_cons_zero]; rfl) (by kernel_rfl) (by kernel_rfl) (by kernel_rfl) (by exact fun _ _ _ h => h) (Or.inr ⟨by rfl, rfl⟩) (by assumption) ?_)
                              (try go_frame)
                              (refine wpAnyH_take (i := 12) (v := undef) (by simp only [List.getElem?_toArray, List.getElem?_cons_succ, List.getElem?_cons_zero]; rfl) (by kernel_rfl) (by kernel_rfl) (by kernel_rfl) (by exact fun _ _ _ h => h) (Or.inr ⟨by rfl, rfl⟩) (by assumption) ?_)
                              (try go_frame)
                              (refine wpAnyH_take (i := 13) (v := undef) (by simp only [List.getElem?_toArray, List.getElem?_cons_succ, List.getElem?_cons_zero]; rfl) (by kernel_rfl) (by kernel_rfl) (by kernel_rfl) (by exact fun _ _ _ h => h) (Or.inr ⟨by rfl, rfl⟩) (by assumption) ?_)
                              (try go_frame)
                              (refine wpAnyH_take (i := 14) (v := undef) (by simp only [List.getElem?_toArray, List.getElem?_cons_succ, List.getElem?_cons_zero]; rfl) (by kernel_rfl) (by kernel_rfl) (by kernel_rfl) (by exact fun _ _ _ h => h) (Or.inr ⟨by rfl, rfl⟩) (by assumption) ?_)
                              (try go_frame)
                              (refine wpAnyH_take (i := 15) (v := undef) (by simp only [List.getElem?_toArray, List.getElem?_cons_succ, List.getElem?_cons_zero]; rfl) (by kernel_rfl) (by kernel_rfl) (by kernel_rfl) (by exact fun _ _ _ h => h) (Or.inr ⟨by rfl, rfl⟩) (by assumption) ?_)
                              (try go_frame)
                              (refine wpAnyH_take (i := 16) (v := undef) (by simp only [List.getElem?_toArray, List.getElem?_cons_succ, List.getElem?_cons_zero]; rfl) (by kernel_rfl) (by kernel_rfl) (by kernel_rfl) (by exact fun _ _ _ h => h) (Or.inr ⟨by rfl, rfl⟩) (by assumption) ?_)
                              (try go_frame)
                              (refine wpAnyH_take (i := 17) (v := ?v17b) (by simp only [List.getElem?_toArray, List.getElem?_cons_succ, List.getElem?_cons_zero]; rfl) (by kernel_rfl) (by kernel_rfl) (by kernel_rfl) (by exact fun _ _ _ h => h) (Or.inl ⟨by rfl, ?y17b⟩) (by assumption) ?r17b)
                              case y17b =>
                                intro w hSw
                                obtain ⟨⟨hs0, hs1, hs2, hs3⟩, -⟩ := hSw
                                go_simp
                                all_goals (with_reducible rfl)
                              case r17b =>
                                (try go_frame)
                                (refine wpAnyH_take (i := 18) (v := ?v18b) (by simp only [List.getElem?_toArray, List.getElem?_cons_succ, List.getElem?_cons_zero]; rfl) (by kernel_rfl) (by kernel_rfl) (by kernel_rfl) (by exact fun _ _ _ h => h) (Or.inl ⟨by rfl, ?y18b⟩) (by assumption) ?r18b)
                                case y18b =>
                                  intro w hSw
                                  obtain ⟨⟨hs0, hs1, hs2, hs3⟩, -⟩ := hSw
                                  go_simp
                                  all_goals (with_reducible rfl)
                                case r18b =>
                                  (try go_frame)
                                  (refine wpAnyH_take (i := 19) (v := ?v19b) (by simp only [List.getElem?_toArray, List.getElem?_cons_succ, List.getElem?_cons_zero]; rfl) (by kernel_rfl) (by kernel_rfl) (by kernel_rfl) (by exact fun _ _ _ h => h) (Or.inl ⟨by rfl, ?y19b⟩) (by assumption) ?r19b)
                                  case y19b =>
                                    intro w hSw
                                    obtain ⟨⟨hs0, hs1, hs2, hs3⟩, -⟩ := hSw
                                    go_simp
                                    all_goals (with_reducible rfl)
                                  case r19b =>
                                    (try go_frame)
                                    (refine wpAnyH_take (i := 20) (v := ?v20b) (by simp only [List.getElem?_toArray, List.getElem?_cons_succ, List.getElem?_cons_zero]; rfl) (by kernel_rfl) (by kernel_rfl) (by kernel_rfl) (by exact fun _ _ _ h => h) (Or.inl ⟨by rfl, ?y20b⟩) (by assumption) ?r20b)
                                    case y20b =>
                                      intro w hSw
                                      obtain ⟨⟨hs0, hs1, hs2, hs3⟩, -⟩ := hSw
                                      go_simp
                                      all_goals (with_reducible rfl)
                                    case r20b =>
                                      (try go_frame)
                                      (refine wpAnyH_take (i := 21) (v := ?v21b) (by simp only [List.getElem?_toArray, List.getElem?_cons_succ, List.getElem?_cons_zero]; rfl) (by kernel_rfl) (by kernel_rfl) (by kernel_rfl) (by exact fun _ _ _ h => h) (Or.inl ⟨by rfl, ?y21b⟩) (by assumption) ?r21b)
                                      case y21b =>
                                        intro w hSw
                                        obtain ⟨⟨hs0, hs1, hs2, hs3⟩, -⟩ := hSw
                                        go_simp
                                        all_goals (with_reducible rfl)
                                      case r21b =>
                                        (try go_frame)
                                        refine wpAnyH_ready (rs := [22]) (by kernel_rfl) (by simp) ?_
                                        refine AllReadyH.cons (by simp only [List.getElem?_toArray, List.getElem?_cons_succ, List.getElem?_cons_zero]; rfl) (fun K hK => ?_) AllReadyH.nil
                                        go_simp
                                        (go_at_call 16; (with_reducible refine (CT2.out _ (And.right (show HeldB w1.heap.size st P Q (.slice a ll.length cap) w5 _ by assumption))).mono ?_); rintro e wk ⟨rfl, yk⟩)
                                        refine hK.out _ _ ?_ (fun hHeld => ?_)
                                        · exact HeldB.more (by assumption) yk
                                        clear hK K
                                        (try go_frame)
                                        (refine wpAnyH_take (i := 23) (v := ?v23b) (by simp only [List.getElem?_toArray, List.getElem?_cons_succ, List.getElem?_cons_zero]; rfl) (by kernel_rfl) (by kernel_rfl) (by kernel_rfl) (by exact fun _ _ _ h => h) (Or.inl ⟨by rfl, ?y23b⟩) (by assumption) ?r23b)
                                        case y23b =>
                                          intro w hSw
                                          obtain ⟨⟨hs0, hs1, hs2, hs3⟩, -⟩ := hSw
                                          go_simp
                                          all_goals (with_reducible rfl)
                                        case r23b =>
                                          (try go_frame)
                                          (refine wpAnyH_take (i := 24) (v := ?v24b) (by simp only [List.getElem?_toArray, List.getElem?_cons_succ, List.getElem?_cons_zero]; rfl) (by kernel_rfl) (by kernel_rfl) (by kernel_rfl) (by exact fun _ _ _ h => h) (Or.inl ⟨by rfl, ?y24b⟩) (by assumption) ?r24b)
                                          case y24b =>
                                            intro w hSw
                                            obtain ⟨⟨hs0, hs1, hs2, hs3⟩, -⟩ := hSw
                                            go_simp
                                            all_goals (with_reducible rfl)
                                          case r24b =>
                                            (try go_frame)
                                            (refine wpAnyH_take (i := 25) (v := ?v25b) (by simp only [List.getElem?_toArray, List.getElem?_cons_succ, List.getElem?_cons_zero]; rfl) (by kernel_rfl) (by kernel_rfl) (by kernel_rfl) (by exact fun _ _ _ h => h) (Or.inl ⟨by rfl, ?y25b⟩) (by assumption) ?r25b)
                                            case y25b =>
                                              intro w hSw
                                              obtain ⟨⟨hs0, hs1, hs2, hs3⟩, -⟩ := hSw
                                              go_simp
                                              all_goals (with_reducible rfl)
                                            case r25b =>
                                              (try go_frame)
                                              (refine wpAnyH_take (i := 26) (v := ?v26b) (by simp only [List.getElem?_toArray, List.getElem?_cons_succ, List.getElem?_cons_zero]; rfl) (by kernel_rfl) (by kernel_rfl) (by kernel_rfl) (by exact fun _ _ _ h => h) (Or.inl ⟨by rfl, ?y26b⟩) (by assumption) ?r26b)
                                              case y26b =>
                                                intro w hSw
                                                obtain ⟨⟨hs0, hs1, hs2, hs3⟩, -⟩ := hSw
                                                go_simp
                                                all_goals (with_reducible rfl)
                                              case r26b =>
                                                (try go_frame)
                                                (refine wpAnyH_take (i := 27) (v := ?v27b) (by simp only [List.getElem?_toArray, List.getElem?_cons_succ, List.getElem?_cons_zero]; rfl) (by kernel_rfl) (by kernel_rfl) (by kernel_rfl) (by exact fun _ _ _ h => h) (Or.inl ⟨by rfl, ?y27b⟩) (by assumption) ?r27b)
                                                case y27b =>
                                                  intro w hSw
                                                  obtain ⟨⟨hs0, hs1, hs2, hs3⟩, -⟩ := hSw
                                                  go_simp
                                                  all_goals (with_reducible rfl)
                                                case r27b =>
                                                  (try go_frame)
                                                  refine wpAnyH_ready (rs := [28]) (by kernel_rfl) (by simp) ?_
                                                  refine AllReadyH.cons (by simp only [List.getElem?_toArray, List.getElem?_cons_succ, List.getElem?_cons_zero]; rfl) (fun K hK => ?_) AllReadyH.nil
                                                  go_simp
                                                  (go_at_call 36; refine (CR.out _ (And.right (show HeldB w1.heap.size st P Q (.slice a ll.length cap) w5 _ by assumption))).mono ?_; rintro e wk ⟨vr2, rfl, or2, yk⟩; obtain ⟨ar2, cr2, rfl, ir2⟩ := or2.shape; clear or2)
                                                  refine hK.out _ _ ?_ (fun hHeld => ?_)
                                                  · exact HeldB.more (by assumption) yk
                                                  clear hK K
                                                  (try go_frame)
                                                  refine wpAnyH_ready (rs := [29]) (by kernel_rfl) (by simp) ?_
                                                  refine AllReadyH.cons (by simp only [List.getElem?_toArray, List.getElem?_cons_succ, List.getElem?_cons_zero]; rfl) (fun K hK => ?_) AllReadyH.nil
                                                  go_simp
                                                  (go_at_call 35; (with_reducible refine (CU2.out (by trivial) _ ar2 cr2 (And.right (show HeldB w1.heap.size st P Q (.slice a ll.length cap) w5 _ by assumption)) ir2).mono ?_); rintro e wk ⟨rfl, yk⟩)
                                                  refine hK.out _ _ ?_ (fun hHeld => ?_)
                                                  · exact HeldB.more (by assumption) yk
                                                  clear hK K
                                                  (try go_frame)
                                                  (refine wpAnyH_take (i := 30) (v := ?v30b) (by simp only [List.getElem?_toArray, List.getElem?_cons_succ, List.getElem?_cons_zero]; rfl) (by kernel_rfl) (by kernel_rfl) (by kernel_rfl) (by exact fun _ _ _ h => h) (Or.inl ⟨by rfl, ?y30b⟩) (by assumption) ?r30b)
                                                  case y30b =>
                                                    intro w hSw
                                                    obtain ⟨⟨hs0, hs1, hs2, hs3⟩, -⟩ := hSw
                                                    go_simp
                                                    all_goals (with_reducible rfl)
                                                  case r30b =>
                                                    (try go_frame)
                                                    (refine wpAnyH_take (i := 31) (v := ?v31b) (by simp only [List.getElem?_toArray, List.getElem?_cons_succ, List.getElem?_cons_zero]; rfl) (by kernel_rfl) (by kernel_rfl) (by kernel_rfl) (by exact fun _ _ _ h => h) (Or.inl ⟨by rfl, ?y31b⟩) (by assumption) ?r31b)
                                                    case y31b =>
                                                      intro w hSw
                                                      obtain ⟨⟨hs0, hs1, hs2, hs3⟩, -⟩ := hSw
                                                      go_simp
                                                      all_goals (with_reducible rfl)
                                                    case r31b =>
                                                      (try go_frame)
                                                      (refine wpAnyH_take (i := 32) (v := ?v32b) (by simp only [List.getElem?_toArray, List.getElem?_cons_succ, List.getElem?_cons_zero]; rfl) (by kernel_rfl) (by kernel_rfl) (by kernel_rfl) (by exact fun _ _ _ h => h) (Or.inl ⟨by rfl, ?y32b⟩) (by assumption) ?r32b)
                                                      case y32b =>
                                                        intro w hSw
                                                        obtain ⟨⟨hs0, hs1, hs2, hs3⟩, -⟩ := hSw
                                                        go_simp
                                                        all_goals (with_reducible rfl)
                                                      case r32b =>
                                                        (try go_frame)
                                                        refine wpAnyH_done (by kernel_rfl) ?_ _
                                                        have HE := hx5.out.trans (And.right (show HeldB w1.heap.size st P Q (.slice a ll.length cap) w5 _ by assumption))
                                                        go_wp2
                                                        go_ret
                                                        exact ⟨rfl, HE⟩
        · cases B2
          · as_aux_lemma =>
              go_wp2
              have K0 := HeldB.start HB5.out (show Ext w5 w5.drew by (repeat (first | exact Ext.refl _ | assumption | refine Ext.alloc ?_ _ | refine Ext.drewN ?_ _ | refine Ext.drew ?_)))
              refine wp_region_held_drew (S := HeldB w1.heap.size st P Q (.slice a ll.length cap) w5) (by kernel_rfl) K0 (fun hHeld => ?_)
              (refine wpAnyH_take (i := 0) (v := ?v0c) (by simp only [List.getElem?_toArray, List.getElem?_cons_zero]; rfl) (by kernel_rfl) (by kernel_rfl) (by kernel_rfl) (by exact fun _ _ _ h => h) (Or.inl ⟨by rfl, ?y0c⟩) (by assumption) ?r0c)
              case y0c =>
                intro w hSw
                obtain ⟨⟨hs0, hs1, hs2, hs3⟩, -⟩ := hSw
                go_simp
                all_goals (with_reducible rfl)
              case r0c =>
                (try go_frame)
                (refine wpAnyH_take (i := 1) (v := ?v1c) (by simp only [List.getElem?_toArray, List.getElem?_cons_succ, List.getElem?_cons_zero]; rfl) (by kernel_rfl) (by kernel_rfl) (by kernel_rfl) (by exact fun _ _ _ h => h) (Or.inl ⟨by rfl, ?y1c⟩) (by assumption) ?r1c)
                case y1c =>
                  intro w hSw
                  obtain ⟨⟨hs0, hs1, hs2, hs3⟩, -⟩ := hSw
                  go_simp
                  all_goals (with_reducible rfl)
                case r1c =>
                  (try go_frame)
                  (refine wpAnyH_take (i := 2) (v := ?v2c) (by simp only [List.getElem?_toArray, List.getElem?_cons_succ, List.getElem?_cons_zero]; rfl) (by kernel_rfl) (by kernel_rfl) (by kernel_rfl) (by exact fun _ _ _ h => h) (Or.inl ⟨by rfl, ?y2c⟩) (by assumption) ?r2c)
                  case y2c =>
                    intro w hSw
                    obtain ⟨⟨hs0, hs1, hs2, hs3⟩, -⟩ := hSw
                    go_simp
                    all_goals (with_reducible rfl)
                  case r2c =>
                    (try go_frame)
                    refine wpAnyH_ready (rs := [3]) (by kernel_rfl) (by simp) ?_
                    refine AllReadyH.cons (by simp only [List.getElem?_toArray, List.getElem?_cons_succ, List.getElem?_cons_zero]; rfl) (fun K hK => ?_) AllReadyH.nil
                    go_simp
                    (go_at_call 34; refine (CV.out _ (And.right (show HeldB w1.heap.size st P Q (.slice a ll.length cap) w5 _ by assumption))).mono ?_; rintro e wk ⟨rfl, yk⟩)
                    refine hK.out _ _ ?_ (fun hHeld => ?_)
                    · exact HeldB.more (by assumption) yk
                    clear hK K
                    (try go_frame)
                    (refine wpAnyH_take (i := 4) (v := ?v4c) (by simp only [List.getElem?_toArray, List.getElem?_cons_succ, List.getElem?_cons_zero]; rfl) (by kernel_rfl) (by kernel_rfl) (by kernel_rfl) (by exact fun _ _ _ h => h) (Or.inl ⟨by rfl, ?y4c⟩) (by assumption) ?r4c)
                    case y4c =>
                      intro w hSw
                      obtain ⟨⟨hs0, hs1, hs2, hs3⟩, -⟩ := hSw
                      go_simp
                      all_goals (with_reducible rfl)
                    case r4c =>
                      (try go_frame)
                      (refine wpAnyH_take (i := 5) (v := ?v5c) (by simp only [List.getElem?_toArray, List.getElem?_cons_succ, List.getElem?_cons_zero]; rfl) (by kernel_rfl) (by kernel_rfl) (by kernel_rfl) (by exact fun _ _ _ h => h) (Or.inl ⟨by rfl, ?y5c⟩) (by assumption) ?r5c)
                      case y5c =>
                        intro w hSw
                        obtain ⟨⟨hs0, hs1, hs2, hs3⟩, -⟩ := hSw
                        go_simp
                        all_goals (with_reducible rfl)
                      case r5c =>
                        (try go_frame)
                        (refine wpAnyH_take (i := 6) (v := ?v6c) (by simp only [List.getElem?_toArray, List.getElem?_cons_succ, List.getElem?_cons_zero]; rfl) (by kernel_rfl) (by kernel_rfl) (by kernel_rfl) (by exact fun _ _ _ h => h) (Or.inl ⟨by rfl, ?y6c⟩) (by assumption) ?r6c)
                        case y6c =>
                          intro w hSw
                          obtain ⟨⟨hs0, hs1, hs2, hs3⟩, -⟩ := hSw
                          go_simp
                          all_goals (with_reducible rfl)
                        case r6c =>
                          (try go_frame)
                          refine wpAnyH_ready (rs := [7]) (by kernel_rfl) (by simp) ?_
                          refine AllReadyH.cons (by simp only [List.getElem?_toArray, List.getElem?_cons_succ, List.getElem?_cons_zero]; rfl) (fun K hK => ?_) AllReadyH.nil
                          go_simp
                          (go_at_call 16; (with_reducible refine (CT1.out _ (And.right (show HeldB w1.heap.size st P Q (.slice a ll.length cap) w5 _ by assumption))).mono ?_); rintro e wk ⟨rfl, yk⟩)
                          refine hK.out _ _ ?_ (fun hHeld => ?_)
                          · exact HeldB.more (by assumption) yk
                          clear hK K
                          (try go_frame)
                          (refine wpAnyH_take (i := 8) (v := ?v8c) (by simp only [List.getElem?_toArray, List.getElem?_cons_succ, List.getElem?_cons_zero]; rfl) (by kernel_rfl) (by kernel_rfl) (by kernel_rfl) (by exact fun _ _ _ h => h) (Or.inl ⟨by rfl, ?y8c⟩) (by assumption) ?r8c)
                          case y8c =>
                            intro w hSw
                            obtain ⟨⟨hs0, hs1, hs2, hs3⟩, -⟩ := hSw
                            go_simp
                            all_goals (with_reducible rfl)
                          case r8c =>
                            (try go_frame)
                            (refine wpAnyH_take (i := 9) (v := ?v9c) (by simp only [List.getElem?_toArray, List.getElem?_cons_succ, List.getElem?_cons_zero]; rfl) (by kernel_rfl) (by kernel_rfl) (by kernel_rfl) (by exact fun _ _ _ h => h) (Or.inl ⟨by rfl, ?y9c⟩) (by assumption) ?r9c)
                            case y9c =>
                              intro w hSw
                              obtain ⟨⟨hs0, hs1, hs2, hs3⟩, -⟩ := hSw
                              go_simp
                              all_goals (with_reducible rfl)
                            case r9c =>
                              (try go_frame)
                              (refine wpAnyH_take (i := 10) (v := ?v10c) (by simp only [List.getElem?_toArray, List.getElem?_cons_succ, List.getElem?_cons_zero]; rfl) (by kernel_rfl) (by kernel_rfl) (by kernel_rfl) (by exact fun _ _ _ h => h) (Or.inl ⟨by rfl, ?y10c⟩) (by assumption) ?r10c)
                              case y10c =>
                                intro w hSw
                                obtain ⟨⟨hs0, hs1, hs2, hs3⟩, -⟩ := hSw
                                go_simp
                                all_goals (with_reducible rfl)
                              case r10c =>
                                (try go_frame)
                                (refine wpAnyH_take (i := 11) (v := ?v11c) (by simp only [List.getElem?_toArray, List.getElem?_cons_succ, List.getElem?_cons_zero]; rfl) (by kernel_rfl) (by kernel_rfl) (by kernel_rfl) (by exact fun _ _ _ h => h) (Or.inl ⟨by rfl, ?y11c⟩) (by assumption) ?r11c)
                                case y11c =>
                                  intro w hSw
                                  obtain ⟨⟨hs0, hs1, hs2, hs3⟩, -⟩ := hSw
                                  go_simp
                                  all_goals (with_reducible rfl)
                                case r11c =>
                                  (try go_frame)
                                  (refine wpAnyH_take (i := 13) (v := ?v13c) (by simp only [List.getElem?_toArray, List.getElem?_cons_succ, List.getElem?_cons_zero]; rfl) (by kernel_rfl) (by kernel_rfl) (by kernel_rfl) (by exact fun _ _ _ h => h) (Or.inl ⟨by rfl, ?y13c⟩) (by assumption) ?r13c)
                                  case y13c =>
                                    intro w hSw
                                    obtain ⟨⟨hs0, hs1, hs2, hs3⟩, -⟩ := hSw
                                    go_simp
                                    all_goals (with_reducible rfl)
                                  case r13c =>
                                    (try go_frame)
                                    (refine wpAnyH_take (i := 14) (v := ?v14c) (by simp only [List.getElem?_toArray, List.getElem?_cons_succ, List.getElem?_cons_zero]; rfl) (by kernel_rfl) (by kernel_rfl) (by kernel_rfl) (by exact fun _ _ _ h => h) (Or.inl ⟨by rfl, ?y14c⟩) (by assumption) ?r14c)
                                    case y14c =>
                                      intro w hSw
                                      obtain ⟨⟨hs0, hs1, hs2, hs3⟩, -⟩ := hSw
                                      go_simp
                                      all_goals (with_reducible rfl)
                                    case r14c =>
                                      (try go_frame)
                                      refine wpAnyH_ready (rs := [12]) (by kernel_rfl) (by simp) ?_
                                      refine AllReadyH.cons (by simp only [List.getElem?_toArray, List.getElem?_cons_succ, List.getElem?_cons_zero]; rfl) (fun K hK => ?_) AllReadyH.nil
                                      go_simp
                                      (go_at_call 31; refine (CTR.out _ (And.right (show HeldB w1.heap.size st P Q (.slice a ll.length cap) w5 _ by assumption))).mono ?_; rintro e wk ⟨vt, rfl, ot, yk⟩; obtain ⟨at_, ct, rfl, it⟩ := ot.shape; clear ot)
                                      refine hK.out _ _ ?_ (fun hHeld => ?_)
                                      · exact HeldB.more (by assumption) yk
                                      clear hK K
                                      (try go_frame)
                                      refine wpAnyH_ready (rs := [15]) (by kernel_rfl) (by simp) ?_
                                      refine AllReadyH.cons (by simp only [List.getElem?_toArray, List.getElem?_cons_succ, List.getElem?_cons_zero]; rfl) (fun K hK => ?_) AllReadyH.nil
                                      go_simp
                                      (go_at_call 36; refine (CR.out _ (And.right (show HeldB w1.heap.size st P Q (.slice a ll.length cap) w5 _ by assumption))).mono ?_; rintro e wk ⟨vr, rfl, or_, yk⟩; obtain ⟨ar, cr, rfl, ir⟩ := or_.shape; clear or_)
                                      refine hK.out _ _ ?_ (fun hHeld => ?_)
                                      · exact HeldB.more (by assumption) yk
                                      clear hK K
                                      (try go_frame)
                                      refine wpAnyH_ready (rs := [16]) (by kernel_rfl) (by simp) ?_
                                      refine AllReadyH.cons (by simp only [List.getElem?_toArray, List.getElem?_cons_succ, List.getElem?_cons_zero]; rfl) (fun K hK => ?_) AllReadyH.nil
                                      go_simp
                                      (go_at_call 35; (with_reducible refine (CU1.out (by trivial) _ at_ ct ar cr (it.ext yk) ir).mono ?_); rintro e wk ⟨rfl, yk⟩)
                                      refine hK.out _ _ ?_ (fun hHeld => ?_)
                                      · exact HeldB.more (by assumption) yk
                                      clear hK K
                                      (try go_frame)
                                      (refine wpAnyH_take (i := 17) (v := ?v17c) (by simp only [List.getElem?_toArray, List.getElem?_cons_succ, List.getElem?_cons_zero]; rfl) (by kernel_rfl) (by kernel_rfl) (by kernel_rfl) (by exact fun _ _ _ h => h) (Or.inl ⟨by rfl, ?y17c⟩) (by assumption) ?r17c)
                                      case y17c =>
                                        intro w hSw
                                        obtain ⟨⟨hs0, hs1, hs2, hs3⟩, -⟩ := hSw
                                        go_simp
                                        all_goals (with_reducible rfl)
                                      case r17c =>
                                        (try go_frame)
                                        (refine wpAnyH_take (i := 18) (v := ?v18c) (by simp only [List.getElem?_toArray, List.getElem?_cons_succ, List.getElem?_cons_zero]; rfl) (by kernel_rfl) (by kernel_rfl) (by kernel_rfl) (by exact fun _ _ _ h => h) (Or.inl ⟨by rfl, ?y18c⟩) (by assumption) ?r18c)
                                        case y18c =>
                                          intro w hSw
                                          obtain ⟨⟨hs0, hs1, hs2, hs3⟩, -⟩ := hSw
                                          go_simp
                                          all_goals (with_reducible rfl)
                                        case r18c =>
                                          (try go_frame)
                                          (refine wpAnyH_take (i := 19) (v := ?v19c) (by simp only [List.getElem?_toArray, List.getElem?_cons_succ, List.getElem?_cons_zero]; rfl) (by kernel_rfl) (by kernel_rfl) (by kernel_rfl) (by exact fun _ _ _ h => h) (Or.inl ⟨by rfl, ?y19c⟩) (by assumption) ?r19c)
                                          case y19c =>
                                            intro w hSw
                                            obtain ⟨⟨hs0, hs1, hs2, hs3⟩, -⟩ := hSw
                                            go_simp
                                            all_goals (with_reducible rfl)
                                          case r19c =>
                                            (try go_frame)
                                            (refine wpAnyH_take (i := 20) (v := ?v20c) (by simp only [List.getElem?_toArray, List.getElem?_cons_succ, List.getElem?_cons_zero]; rfl) (by kernel_rfl) (by kernel_rfl) (by kernel_rfl) (by exact fun _ _ _ h => h) (Or.inl ⟨by rfl, ?y20c⟩) (by assumption) ?r20c)
                                            case y20c =>
                                              intro w hSw
                                              obtain ⟨⟨hs0, hs1, hs2, hs3⟩, -⟩ := hSw
                                              go_simp
                                              all_goals (with_reducible rfl)
                                            case r20c =>
                                              (try go_frame)
                                              (refine wpAnyH_take (i := 21) (v := ?v21c) (by simp only [List.getElem?_toArray, List.getElem?_cons_succ, List.getElem?_cons_zero]; rfl) (by kernel_rfl) (by kernel_rfl) (by kernel_rfl) (by exact fun _ _ _ h => h) (Or.inl ⟨by rfl, ?y21c⟩) (by assumption) ?r21c)
                                              case y21c =>
                                                intro w hSw
                                                obtain ⟨⟨hs0, hs1, hs2, hs3⟩, -⟩ := hSw
                                                go_simp
                                                all_goals (with_reducible rfl)
                                              case r21c =>
                                                (try go_frame)
                                                refine wpAnyH_ready (rs := [22]) (by kernel_rfl) (by simp) ?_
                                                refine AllReadyH.cons (by simp only [List.getElem?_toArray, List.getElem?_cons_succ, List.getElem?_cons_zero]; rfl) (fun K hK => ?_) AllReadyH.nil
                                                go_simp
                                                (go_at_call 16; (with_reducible refine (CT2.out _ (And.right (show HeldB w1.heap.size st P Q (.slice a ll.length cap) w5 _ by assumption))).mono ?_); rintro e wk ⟨rfl, yk⟩)
                                                refine hK.out _ _ ?_ (fun hHeld => ?_)
                                                · exact HeldB.more (by assumption) yk
                                                clear hK K
                                                (try go_frame)
                                                (refine wpAnyH_take (i := 23) (v := ?v23c) (by simp only [List.getElem?_toArray, List.getElem?_cons_succ, List.getElem?_cons_zero]; rfl) (by kernel_rfl) (by kernel_rfl) (by kernel_rfl) (by exact fun _ _ _ h => h) (Or.inl ⟨by rfl, ?y23c⟩) (by assumption) ?r23c)
                                                case y23c =>
                                                  intro w hSw
                                                  obtain ⟨⟨hs0, hs1, hs2, hs3⟩, -⟩ := hSw
                                                  go_simp
                                                  all_goals (with_reducible rfl)
                                                case r23c =>
                                                  (try go_frame)
                                                  (refine wpAnyH_take (i := 24) (v := ?v24c) (by simp only [List.getElem?_toArray, List.getElem?_cons_succ, List.getElem?_cons_zero]; rfl) (by kernel_rfl) (by kernel_rfl) (by kernel_rfl) (by exact fun _ _ _ h => h) (Or.inl ⟨by rfl, ?y24c⟩) (by assumption) ?r24c)
                                                  case y24c =>
                                                    intro w hSw
                                                    obtain ⟨⟨hs0, hs1, hs2, hs3⟩, -⟩ := hSw
                                                    go_simp
                                                    all_goals (with_reducible rfl)
                                                  case r24c =>
                                                    (try go_frame)
                                                    (refine wpAnyH_take (i := 25) (v := undef) (by simp only [List.getElem?_toArray, List.getElem?_cons_succ, List.getElem?_cons_zero]; rfl) (by kernel_rfl) (by kernel_rfl) (by kernel_rfl) (by exact fun _ _ _ h => h) (Or.inr ⟨by rfl, rfl⟩) (by assumption) ?_)
                                                    (try go_frame)
                                                    (refine wpAnyH_take (i := 26) (v := undef) (by simp only [List.getElem?_toArray, List.getElem?_cons_succ, List.getElem?_cons_zero]; rfl) (by kernel_rfl) (by kernel_rfl) (by kernel_rfl) (by exact fun _ _ _ h => h) (Or.inr ⟨by rfl, rfl⟩) (by assumption) ?_)
                                                    (try go_frame)
                                                    (refine wpAnyH_take (i := 27) (v := undef) (by simp only [List.getElem?_toArray, List.getElem?_cons_succ, List.getElem?_cons_zero]; rfl) (by kernel_rfl) (by kernel_rfl) (by kernel_rfl) (by exact fun _ _ _ h => h) (Or.inr ⟨by rfl, rfl⟩) (by assumption) ?_)
                                                    (try go_frame)
                                                    (refine wpAnyH_take (i := 28) (v := undef) (by simp only [List.getElem?_toArray, List.getElem?_cons_succ, List.getElem?_cons_zero]; rfl) (by kernel_rfl) (by kernel_rfl) (by kernel_rfl) (by exact fun _ _ _ h => h) (Or.inr ⟨by rfl, rfl⟩) (by assumption) ?_)
                                                    (try go_frame)
                                                    (refine wpAnyH_take (i := 29) (v := undef) (by simp only [List.getElem?_toArray, List.getElem?_cons_succ, List.getElem?_cons_zero]; rfl) (by kernel_rfl) (by kernel_rfl) (by kernel_rfl) (by exact fun _ _ _ h => h) (Or.inr ⟨by rfl, rfl⟩) (by assumption) ?_)
                                                    (try go_frame)
                                                    (refine wpAnyH_take (i := 30) (v := ?v30c) (by simp only [List.getElem?_toArray, List.getElem?_cons_succ, List.getElem?_cons_zero]; rfl) (by kernel_rfl) (by kernel_rfl) (by kernel_rfl) (by exact fun _ _ _ h => h) (Or.inl ⟨by rfl, ?y30c⟩) (by assumption) ?r30c)
                                                    case y30c =>
                                                      intro w hSw
                                                      obtain ⟨⟨hs0, hs1, hs2, hs3⟩, -⟩ := hSw
                                                      go_simp
                                                      all_goals (with_reducible rfl)
                                                    case r30c =>
                                                      (try go_frame)
                                                      (refine wpAnyH_take (i := 31) (v := ?v31c) (by simp only [List.getElem?_toArray, List.getElem?_cons_succ, List.getElem?_cons_zero]; rfl) (by kernel_rfl) (by kernel_rfl) (by kernel_rfl) (by exact fun _ _ _ h => h) (Or.inl ⟨by rfl, ?y31c⟩) (by assumption) ?r31c)
                                                      case y31c =>
                                                        intro w hSw
                                                        obtain ⟨⟨hs0, hs1, hs2, hs3⟩, -⟩ := hSw
                                                        go_simp
                                                        all_goals (with_reducible rfl)
                                                      case r31c =>
                                                        (try go_frame)
                                                        (refine wpAnyH_take (i := 32) (v := ?v32c) (by simp only [List.getElem?_toArray, List.getElem?_cons_succ, List.getElem?_cons_zero]; rfl) (by kernel_rfl) (by kernel_rfl) (by kernel_rfl) (by exact fun _ _ _ h => h) (Or.inl ⟨by rfl, ?y32c⟩) (by assumption) ?r32c)
                                                        case y32c =>
                                                          intro w hSw
                                                          obtain ⟨⟨hs0, hs1, hs2, hs3⟩, -⟩ := hSw
                                                          go_simp
                                                          all_goals (with_reducible rfl)
                                                        case r32c =>
                                                          (try go_frame)
                                                          refine wpAnyH_done (by kernel_rfl) ?_ _
                                                          have HE := hx5.out.trans (And.right (show HeldB w1.heap.size st P Q (.slice a ll.length cap) w5 _ by assumption))
                                                          go_wp2
                                                          go_ret
                                                          exact ⟨rfl, HE⟩
          · as_aux_lemma =>
              go_wp2
              have K0 := HeldB.start HB5.out (show Ext w5 w5.drew by (repeat (first | exact Ext.refl _ | assumption | refine Ext.alloc ?_ _ | refine Ext.drewN ?_ _ | refine Ext.drew ?_)))
              refine wp_region_held_drew (S := HeldB w1.heap.size st P Q (.slice a ll.length cap) w5) (by kernel_rfl) K0 (fun hHeld => ?_)
              (refine wpAnyH_take (i := 0) (v := ?v0d) (by simp only [List.getElem?_toArray, List.getElem?_cons_zero]; rfl) (by kernel_rfl) (by kernel_rfl) (by kernel_rfl) (by exact fun _ _ _ h => h) (Or.inl ⟨by rfl, ?y0d⟩) (by assumption) ?r0d)
              case y0d =>
                intro w hSw
                obtain ⟨⟨hs0, hs1, hs2, hs3⟩, -⟩ := hSw
                go_simp
                all_goals (with_reducible rfl)
              case r0d =>
                (try go_frame)
                (refine wpAnyH_take (i := 1) (v := ?v1d) (by simp only [List.getElem?_toArray, List.getElem?_cons_succ, List.getElem?_cons_zero]; rfl) (by kernel_rfl) (by kernel_rfl) (by kernel_rfl) (by exact fun _ _ _ h => h) (Or.inl ⟨by rfl, ?y1d⟩) (by assumption) ?r1d)
                case y1d =>
                  intro w hSw
                  obtain ⟨⟨hs0, hs1, hs2, hs3⟩, -⟩ := hSw
                  go_simp
                  all_goals (with_reducible rfl)
                case r1d =>
                  (try go_frame)
                  (refine wpAnyH_take (i := 2) (v := ?v2d) (by simp only [List.getElem?_toArray, List.getElem?_cons_succ, List.getElem?_cons_zero]; rfl) (by kernel_rfl) (by kernel_rfl) (by kernel_rfl) (by exact fun _ _ _ h => h) (Or.inl ⟨by rfl, ?y2d⟩) (by assumption) ?r2d)
                  case y2d =>
                    intro w hSw
                    obtain ⟨⟨hs0, hs1, hs2, hs3⟩, -⟩ := hSw
                    go_simp
                    all_goals (with_reducible rfl)
                  case r2d =>
                    (try go_frame)
                    refine wpAnyH_ready (rs := [3]) (by kernel_rfl) (by simp) ?_
                    refine AllReadyH.cons (by simp only [List.getElem?_toArray, List.getElem?_cons_succ, List.getElem?_cons_zero]; rfl) (fun K hK => ?_) AllReadyH.nil
                    go_simp
                    (go_at_call 34; refine (CV.out _ (And.right (show HeldB w1.heap.size st P Q (.slice a ll.length cap) w5 _ by assumption))).mono ?_; rintro e wk ⟨rfl, yk⟩)
                    refine hK.out _ _ ?_ (fun hHeld => ?_)
                    · exact HeldB.more (by assumption) yk
                    clear hK K
                    (try go_frame)
                    (refine wpAnyH_take (i := 4) (v := ?v4d) (by simp only [List.getElem?_toArray, List.getElem?_cons_succ, List.getElem?_cons_zero]; rfl) (by kernel_rfl) (by kernel_rfl) (by kernel_rfl) (by exact fun _ _ _ h => h) (Or.inl ⟨by rfl, ?y4d⟩) (by assumption) ?r4d)
                    case y4d =>
                      intro w hSw
                      obtain ⟨⟨hs0, hs1, hs2, hs3⟩, -⟩ := hSw
                      go_simp
                      all_goals (with_reducible rfl)
                    case r4d =>
                      (try go_frame)
                      (refine wpAnyH_take (i := 5) (v := ?v5d) (by simp only [List.getElem?_toArray, List.getElem?_cons_succ, List.getElem?_cons_zero]; rfl) (by kernel_rfl) (by kernel_rfl) (by kernel_rfl) (by exact fun _ _ _ h => h) (Or.inl ⟨by rfl, ?y5d⟩) (by assumption) ?r5d)
                      case y5d =>
                        intro w hSw
                        obtain ⟨⟨hs0, hs1, hs2, hs3⟩, -⟩ := hSw
                        go_simp
                        all_goals (with_reducible rfl)
                      case r5d =>
                        (try go_frame)
                        (refine wpAnyH_take (i := 6) (v := ?v6d) (by simp only [List.getElem?_toArray, List.getElem?_cons_succ, List.getElem?_cons_zero]; rfl) (by kernel_rfl) (by kernel_rfl) (by kernel_rfl) (by exact fun _ _ _ h => h) (Or.inl ⟨by rfl, ?y6d⟩) (by assumption) ?r6d)
                        case y6d =>
                          intro w hSw
                          obtain ⟨⟨hs0, hs1, hs2, hs3⟩, -⟩ := hSw
                          go_simp
                          all_goals (with_reducible rfl)
                        case r6d =>
                          (try go_frame)
                          refine wpAnyH_ready (rs := [7]) (by kernel_rfl) (by simp) ?_
                          refine AllReadyH.cons (by simp only [List.getElem?_toArray, List.getElem?_cons_succ, List.getElem?_cons_zero]; rfl) (fun K hK => ?_) AllReadyH.nil
                          go_simp
                          (go_at_call 16; (with_reducible refine (CT1.out _ (And.right (show HeldB w1.heap.size st P Q (.slice a ll.length cap) w5 _ by assumption))).mono ?_); rintro e wk ⟨rfl, yk⟩)
                          refine hK.out _ _ ?_ (fun hHeld => ?_)
                          · exact HeldB.more (by assumption) yk
                          clear hK K
                          (try go_frame)
                          (refine wpAnyH_take (i := 8) (v := ?v8d) (by simp only [List.getElem?_toArray, List.getElem?_cons_succ, List.getElem?_cons_zero]; rfl) (by kernel_rfl) (by kernel_rfl) (by kernel_rfl) (by exact fun _ _ _ h => h) (Or.inl ⟨by rfl, ?y8d⟩) (by assumption) ?r8d)
                          case y8d =>
                            intro w hSw
                            obtain ⟨⟨hs0, hs1, hs2, hs3⟩, -⟩ := hSw
                            go_simp
                            all_goals (with_reducible rfl)
                          case r8d =>
                            (try go_frame)
                            (refine wpAnyH_take (i := 9) (v := ?v9d) (by simp only [List.getElem?_toArray, List.getElem?_cons_succ, List.getElem?_cons_zero]; rfl) (by kernel_rfl) (by kernel_rfl) (by kernel_rfl) (by exact fun _ _ _ h => h) (Or.inl ⟨by rfl, ?y9d⟩) (by assumption) ?r9d)
                            case y9d =>
                              intro w hSw
                              obtain ⟨⟨hs0, hs1, hs2, hs3⟩, -⟩ := hSw
                              go_simp
                              all_goals (with_reducible rfl)
                            case r9d =>
                              (try go_frame)
                              (refine wpAnyH_take (i := 10) (v := ?v10d) (by simp only [List.getElem?_toArray, List.getElem?_cons_succ, List.getElem?_cons_zero]; rfl) (by kernel_rfl) (by kernel_rfl) (by kernel_rfl) (by exact fun _ _ _ h => h) (Or.inl ⟨by rfl, ?y10d⟩) (by assumption) ?r10d)
                              case y10d =>
                                intro w hSw
                                obtain ⟨⟨hs0, hs1, hs2, hs3⟩, -⟩ := hSw
                                go_simp
                                all_goals (with_reducible rfl)
                              case r10d =>
                                (try go_frame)
                                (refine wpAnyH_take (i := 11) (v := ?v11d) (by simp only [List.getElem?_toArray, List.getElem?_cons_succ, List.getElem?_cons_zero]; rfl) (by kernel_rfl) (by kernel_rfl) (by kernel_rfl) (by exact fun _ _ _ h => h) (Or.inl ⟨by rfl, ?y11d⟩) (by assumption) ?r11d)
                                case y11d =>
                                  intro w hSw
                                  obtain ⟨⟨hs0, hs1, hs2, hs3⟩, -⟩ := hSw
                                  go_simp
                                  all_goals (with_reducible rfl)
                                case r11d =>
                                  (try go_frame)
                                  (refine wpAnyH_take (i := 13) (v := ?v13d) (by simp only [List.getElem?_toArray, List.getElem?_cons_succ, List.getElem?_cons_zero]; rfl) (by kernel_rfl) (by kernel_rfl) (by kernel_rfl) (by exact fun _ _ _ h => h) (Or.inl ⟨by rfl, ?y13d⟩) (by assumption) ?r13d)
                                  case y13d =>
                                    intro w hSw
                                    obtain ⟨⟨hs0, hs1, hs2, hs3⟩, -⟩ := hSw
                                    go_simp
                                    all_goals (with_reducible rfl)
                                  case r13d =>
                                    (try go_frame)
                                    (refine wpAnyH_take (i := 14) (v := ?v14d) (by simp only [List.getElem?_toArray, List.getElem?_cons_succ, List.getElem?_cons_zero]; rfl) (by kernel_rfl) (by kernel_rfl) (by kernel_rfl) (by exact fun _ _ _ h => h) (Or.inl ⟨by rfl, ?y14d⟩) (by assumption) ?r14d)
                                    case y14d =>
                                      intro w hSw
                                      obtain ⟨⟨hs0, hs1, hs2, hs3⟩, -⟩ := hSw
                                      go_simp
                                      all_goals (with_reducible rfl)
                                    case r14d =>
                                      (try go_frame)
                                      refine wpAnyH_ready (rs := [12]) (by kernel_rfl) (by simp) ?_
                                      refine AllReadyH.cons (by simp only [List.getElem?_toArray, List.getElem?_cons_succ, List.getElem?_cons_zero]; rfl) (fun K hK => ?_) AllReadyH.nil
                                      go_simp
                                      (go_at_call 31; refine (CTR.out _ (And.right (show HeldB w1.heap.size st P Q (.slice a ll.length cap) w5 _ by assumption))).mono ?_; rintro e wk ⟨vt, rfl, ot, yk⟩; obtain ⟨at_, ct, rfl, it⟩ := ot.shape; clear ot)
                                      refine hK.out _ _ ?_ (fun hHeld => ?_)
                                      · exact HeldB.more (by assumption) yk
                                      clear hK K
                                      (try go_frame)
                                      refine wpAnyH_ready (rs := [15]) (by kernel_rfl) (by simp) ?_
                                      refine AllReadyH.cons (by simp only [List.getElem?_toArray, List.getElem?_cons_succ, List.getElem?_cons_zero]; rfl) (fun K hK => ?_) AllReadyH.nil
                                      go_simp
                                      (go_at_call 36; refine (CR.out _ (And.right (show HeldB w1.heap.size st P Q (.slice a ll.length cap) w5 _ by assumption))).mono ?_; rintro e wk ⟨vr, rfl, or_, yk⟩; obtain ⟨ar, cr, rfl, ir⟩ := or_.shape; clear or_)
                                      refine hK.out _ _ ?_ (fun hHeld => ?_)
                                      · exact HeldB.more (by assumption) yk
                                      clear hK K
                                      (try go_frame)
                                      refine wpAnyH_ready (rs := [16]) (by kernel_rfl) (by simp) ?_
                                      refine AllReadyH.cons (by simp only [List.getElem?_toArray, List.getElem?_cons_succ, List.getElem?_cons_zero]; rfl) (fun K hK => ?_) AllReadyH.nil
                                      go_simp
                                      (go_at_call 35; (with_reducible refine (CU1.out (by trivial) _ at_ ct ar cr (it.ext yk) ir).mono ?_); rintro e wk ⟨rfl, yk⟩)
                                      refine hK.out _ _ ?_ (fun hHeld => ?_)
                                      · exact HeldB.more (by assumption) yk
                                      clear hK K
                                      (try go_frame)
                                      (refine wpAnyH_take (i := 17) (v := ?v17d) (by simp only [List.getElem?_toArray, List.getElem?_cons_succ, List.getElem?_cons_zero]; rfl) (by kernel_rfl) (by kernel_rfl) (by kernel_rfl) (by exact fun _ _ _ h => h) (Or.inl ⟨by rfl, ?y17d⟩) (by assumption) ?r17d)
                                      case y17d =>
                                        intro w hSw
                                        obtain ⟨⟨hs0, hs1, hs2, hs3⟩, -⟩ := hSw
                                        go_simp
                                        all_goals (with_reducible rfl)
                                      case r17d =>
                                        (try go_frame)
                                        (refine wpAnyH_take (i := 18) (v := ?v18d) (by simp only [List.getElem?_toArray, List.getElem?_cons_succ, List.getElem?_cons_zero]; rfl) (by kernel_rfl) (by kernel_rfl) (by kernel_rfl) (by exact fun _ _ _ h => h) (Or.inl ⟨by rfl, ?y18d⟩) (by assumption) ?r18d)
                                        case y18d =>
                                          intro w hSw
                                          obtain ⟨⟨hs0, hs1, hs2, hs3⟩, -⟩ := hSw
                                          go_simp
                                          all_goals (with_reducible rfl)
                                        case r18d =>
                                          (try go_frame)
                                          (refine wpAnyH_take (i := 19) (v := ?v19d) (by simp only [List.getElem?_toArray, List.getElem?_cons_succ, List.getElem?_cons_zero]; rfl) (by kernel_rfl) (by kernel_rfl) (by kernel_rfl) (by exact fun _ _ _ h => h) (Or.inl ⟨by rfl, ?y19d⟩) (by assumption) ?r19d)
                                          case y19d =>
                                            intro w hSw
                                            obtain ⟨⟨hs0, hs1, hs2, hs3⟩, -⟩ := hSw
                                            go_simp
                                            all_goals (with_reducible rfl)
                                          case r19d =>
                                            (try go_frame)
                                            (refine wpAnyH_take (i := 20) (v := ?v20d) (by simp only [List.getElem?_toArray, List.getElem?_cons_succ, List.getElem?_cons_zero]; rfl) (by kernel_rfl) (by kernel_rfl) (by kernel_rfl) (by exact fun _ _ _ h => h) (Or.inl ⟨by rfl, ?y20d⟩) (by assumption) ?r20d)
                                            case y20d =>
                                              intro w hSw
                                              obtain ⟨⟨hs0, hs1, hs2, hs3⟩, -⟩ := hSw
                                              go_simp
                                              all_goals (with_reducible rfl)
                                            case r20d =>
                                              (try go_frame)
                                              (refine wpAnyH_take (i := 21) (v := ?v21d) (by simp only [List.getElem?_toArray, List.getElem?_cons_succ, List.getElem?_cons_zero]; rfl) (by kernel_rfl) (by kernel_rfl) (by kernel_rfl) (by exact fun _ _ _ h => h) (Or.inl ⟨by rfl, ?y21d⟩) (by assumption) ?r21d)
                                              case y21d =>
                                                intro w hSw
                                                obtain ⟨⟨hs0, hs1, hs2, hs3⟩, -⟩ := hSw
                                                go_simp
                                                all_goals (with_reducible rfl)
                                              case r21d =>
                                                (try go_frame)
                                                refine wpAnyH_ready (rs := [22]) (by kernel_rfl) (by simp) ?_
                                                refine AllReadyH.cons (by simp only [List.getElem?_toArray, List.getElem?_cons_succ, List.getElem?_cons_zero]; rfl) (fun K hK => ?_) AllReadyH.nil
                                                go_simp
                                                (go_at_call 16; (with_reducible refine (CT2.out _ (And.right (show HeldB w1.heap.size st P Q (.slice a ll.length cap) w5 _ by assumption))).mono ?_); rintro e wk ⟨rfl, yk⟩)
                                                refine hK.out _ _ ?_ (fun hHeld => ?_)
                                                · exact HeldB.more (by assumption) yk
                                                clear hK K
                                                (try go_frame)
                                                (refine wpAnyH_take (i := 23) (v := ?v23d) (by simp only [List.getElem?_toArray, List.getElem?_cons_succ, List.getElem?_cons_zero]; rfl) (by kernel_rfl) (by kernel_rfl) (by kernel_rfl) (by exact fun _ _ _ h => h) (Or.inl ⟨by rfl, ?y23d⟩) (by assumption) ?r23d)
                                                case y23d =>
                                                  intro w hSw
                                                  obtain ⟨⟨hs0, hs1, hs2, hs3⟩, -⟩ := hSw
                                                  go_simp
                                                  all_goals (with_reducible rfl)
                                                case r23d =>
                                                  (try go_frame)
                                                  (refine wpAnyH_take (i := 24) (v := ?v24d) (by simp only [List.getElem?_toArray, List.getElem?_cons_succ, List.getElem?_cons_zero]; rfl) (by kernel_rfl) (by kernel_rfl) (by kernel_rfl) (by exact fun _ _ _ h => h) (Or.inl ⟨by rfl, ?y24d⟩) (by assumption) ?r24d)
                                                  case y24d =>
                                                    intro w hSw
                                                    obtain ⟨⟨hs0, hs1, hs2, hs3⟩, -⟩ := hSw
                                                    go_simp
                                                    all_goals (with_reducible rfl)
                                                  case r24d =>
                                                    (try go_frame)
                                                    (refine wpAnyH_take (i := 25) (v := ?v25d) (by simp only [List.getElem?_toArray, List.getElem?_cons_succ, List.getElem?_cons_zero]; rfl) (by kernel_rfl) (by kernel_rfl) (by kernel_rfl) (by exact fun _ _ _ h => h) (Or.inl ⟨by rfl, ?y25d⟩) (by assumption) ?r25d)
                                                    case y25d =>
                                                      intro w hSw
                                                      obtain ⟨⟨hs0, hs1, hs2, hs3⟩, -⟩ := hSw
                                                      go_simp
                                                      all_goals (with_reducible rfl)
                                                    case r25d =>
                                                      (try go_frame)
                                                      (refine wpAnyH_take (i := 26) (v := ?v26d) (by simp only [List.getElem?_toArray, List.getElem?_cons_succ, List.getElem?_cons_zero]; rfl) (by kernel_rfl) (by kernel_rfl) (by kernel_rfl) (by exact fun _ _ _ h => h) (Or.inl ⟨by rfl, ?y26d⟩) (by assumption) ?r26d)
                                                      case y26d =>
                                                        intro w hSw
                                                        obtain ⟨⟨hs0, hs1, hs2, hs3⟩, -⟩ := hSw
                                                        go_simp
                                                        all_goals (with_reducible rfl)
                                                      case r26d =>
                                                        (try go_frame)
                                                        (refine wpAnyH_take (i := 27) (v := ?v27d) (by simp only [List.getElem?_toArray, List.getElem?_cons_succ, List.getElem?_cons_zero]; rfl) (by kernel_rfl) (by kernel_rfl) (by kernel_rfl) (by exact fun _ _ _ h => h) (Or.inl ⟨by rfl, ?y27d⟩) (by assumption) ?r27d)
                                                        case y27d =>
                                                          intro w hSw
                                                          obtain ⟨⟨hs0, hs1, hs2, hs3⟩, -⟩ := hSw
                                                          go_simp
                                                          all_goals (with_reducible rfl)
                                                        case r27d =>
                                                          (try go_frame)
                                                          refine wpAnyH_ready (rs := [28]) (by kernel_rfl) (by simp) ?_
                                                          refine AllReadyH.cons (by simp only [List.getElem?_toArray, List.getElem?_cons_succ, List.getElem?_cons_zero]; rfl) (fun K hK => ?_) AllReadyH.nil
                                                          go_simp
                                                          (go_at_call 36; refine (CR.out _ (And.right (show HeldB w1.heap.size st P Q (.slice a ll.length cap) w5 _ by assumption))).mono ?_; rintro e wk ⟨vr2, rfl, or2, yk⟩; obtain ⟨ar2, cr2, rfl, ir2⟩ := or2.shape; clear or2)
                                                          refine hK.out _ _ ?_ (fun hHeld => ?_)
                                                          · exact HeldB.more (by assumption) yk
                                                          clear hK K
                                                          (try go_frame)
                                                          refine wpAnyH_ready (rs := [29]) (by kernel_rfl) (by simp) ?_
                                                          refine AllReadyH.cons (by simp only [List.getElem?_toArray, List.getElem?_cons_succ, List.getElem?_cons_zero]; rfl) (fun K hK => ?_) AllReadyH.nil
                                                          go_simp
                                                          (go_at_call 35; (with_reducible refine (CU2.out (by trivial) _ ar2 cr2 (And.right (show HeldB w1.heap.size st P Q (.slice a ll.length cap) w5 _ by assumption)) ir2).mono ?_); rintro e wk ⟨rfl, yk⟩)
                                                          refine hK.out _ _ ?_ (fun hHeld => ?_)
                                                          · exact HeldB.more (by assumption) yk
                                                          clear hK K
                                                          (try go_frame)
                                                          (refine wpAnyH_take (i := 30) (v := ?v30d) (by simp only [List.getElem?_toArray, List.getElem?_cons_succ, List.getElem?_cons_zero]; rfl) (by kernel_rfl) (by kernel_rfl) (by kernel_rfl) (by exact fun _ _ _ h => h) (Or.inl ⟨by rfl, ?y30d⟩) (by assumption) ?r30d)
                                                          case y30d =>
                                                            intro w hSw
                                                            obtain ⟨⟨hs0, hs1, hs2, hs3⟩, -⟩ := hSw
                                                            go_simp
                                                            all_goals (with_reducible rfl)
                                                          case r30d =>
                                                            (try go_frame)
                                                            (refine wpAnyH_take (i := 31) (v := ?v31d) (by simp only [List.getElem?_toArray, List.getElem?_cons_succ, List.getElem?_cons_zero]; rfl) (by kernel_rfl) (by kernel_rfl) (by kernel_rfl) (by exact fun _ _ _ h => h) (Or.inl ⟨by rfl, ?y31d⟩) (by assumption) ?r31d)
                                                            case y31d =>
                                                              intro w hSw
                                                              obtain ⟨⟨hs0, hs1, hs2, hs3⟩, -⟩ := hSw
                                                              go_simp
                                                              all_goals (with_reducible rfl)
                                                            case r31d =>
                                                              (try go_frame)
                                                              (refine wpAnyH_take (i := 32) (v := ?v32d) (by simp only [List.getElem?_toArray, List.getElem?_cons_succ, List.getElem?_cons_zero]; rfl) (by kernel_rfl) (by kernel_rfl) (by kernel_rfl) (by exact fun _ _ _ h => h) (Or.inl ⟨by rfl, ?y32d⟩) (by assumption) ?r32d)
                                                              case y32d =>
                                                                intro w hSw
                                                                obtain ⟨⟨hs0, hs1, hs2, hs3⟩, -⟩ := hSw
                                                                go_simp
                                                                all_goals (with_reducible rfl)
                                                              case r32d =>
                                                                (try go_frame)
                                                                refine wpAnyH_done (by kernel_rfl) ?_ _
                                                                have HE := hx5.out.trans (And.right (show HeldB w1.heap.size st P Q (.slice a ll.length cap) w5 _ by assumption))
                                                                go_wp2
                                                                go_ret
                                                                exact ⟨rfl, HE⟩
    · go_enter Tryz.func6, Tryz.ntmps6
      go_wp2
      go_ret
      exact ⟨rfl, Ext.refl _⟩
  · go_enter Tryz.func6, Tryz.ntmps6
    go_wp2
    go_ret
    exact ⟨rfl, Ext.refl _⟩
end Go.Proofs.YtlaamecfknkmlaaGreat
