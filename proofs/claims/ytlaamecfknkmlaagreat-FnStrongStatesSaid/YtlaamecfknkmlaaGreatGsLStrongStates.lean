/- Merged texts: contracts and plain lemmas (LStrongStates). -/
import Derived.Test.YtlaamecfknkmlaaGreatGs16
import Derived.Test.YtlaamecfknkmlaaGreatGsDt
import Derived.Test.YtlaamecfknkmlaaGreatGs14
import Derived.Test.YtlaamecfknkmlaaGreatGs15
import Derived.Test.YtlaamecfknkmlaaGreatGs3
import Derived.Test.YtlaamecfknkmlaaGreatGs11
import Derived.Lib.QuietBelow
namespace Go.Proofs.YtlaamecfknkmlaaGreat
set_option linter.unusedVariables false
open Go.RowKit Go.Kt Go.Sort
theorem strongF_cases (st : Nat) (p q : Int) (ll : List (List Int)) (l : List Int) (x : Int) :
    strongF st p q ll x l = -1 ∨ ∃ P Q X : Nat, p = P ∧ q = Q ∧ x = X ∧ mvB st p q ll = true ∧ kvB l = true ∧ 1 ≤ st ∧ st ≤ 5 ∧ X < 2 ^ st ∧ P < 4294967296 ∧ Q < 4294967296 ∧ (∀ i, i < 3 → Rel st (rowI ll i)) ∧ strongF st p q ll x l = ((img ((treeOf l).rows P Q st ll) X : Nat) : Int) := by
  unfold strongF
  cases hv : mvB st p q ll
  · exact .inl rfl
  · cases hs : kvB l
    · exact .inl rfl
    · cases hx : setB (st : Int).toNat x
      · exact .inl rfl
      · obtain ⟨s, P, Q, e1, rfl, rfl, b1, b2, b3, b4, b5, b6, b7, b8⟩ := mvB_bounds hv
        obtain rfl : st = s := by omega
        rw [Int.toNat_natCast] at hx
        have hx0 : 0 ≤ x ∧ x < 2 ^ st := by simpa [setB] using hx
        obtain ⟨X, rfl⟩ := Int.eq_ofNat_of_zero_le hx0.1
        exact .inr ⟨P, Q, X, rfl, rfl, rfl, rfl, rfl, b1, b2, by have := hx0.2; exact_mod_cast this, b5, b6, fun i hi => rvB_relK (b8 i hi), by unfold rowsF; rw [hv, hs]; simp⟩
theorem strongF_at {st P Q X : Nat} {ll : List (List Int)} {l : List Int} (hv : mvB st P Q ll = true) (hs : kvB l = true) (hX : X < 2 ^ st) : strongF st P Q ll X l = ((img ((treeOf l).rows P Q st ll) X : Nat) : Int) := by
  have hx : setB st (X : Int) = true := by simp [setB]; exact_mod_cast hX
  unfold strongF rowsF
  rw [hv, hs, Int.toNat_natCast, hx, Int.toNat_natCast]; rfl
theorem weakF_at {st P Q X : Nat} {ll : List (List Int)} {l : List Int} (hv : mvB st P Q ll = true) (hs : kvB l = true) (hX : X < 2 ^ st) : weakF st P Q ll l X = (((treeOf l).weak P Q st ll X : Nat) : Int) := by
  have hx : setB st (X : Int) = true := by simp [setB]; exact_mod_cast hX
  unfold weakF
  rw [hv, hs, Int.toNat_natCast, hx, Int.toNat_natCast]; rfl
theorem testF_at {st P Q T : Nat} {ll : List (List Int)} (hv : mvB st P Q ll = true) (hT : T < 16) : testF st P Q ll T = ((tsTo P Q T st : Nat) : Int) := by
  have hx : inB (T : Int) 0 15 = true := by simp [inB]; omega
  unfold testF
  rw [hv, hx, Int.toNat_natCast, Int.toNat_natCast]; rfl
set_option maxRecDepth 100000 in
set_option maxHeartbeats 4000000 in
theorem fnStrongStates_c (a0 : Option Addr) (c0 : Nat) (l0 : List Int) (a1 : Option Addr) (c1 : Nat) (l1 : List Int) (w : World) (h0 : BytesAt w a0 l0) (hlen0 : l0.length ≤ 9223372036854775807) (hcap0 : l0.length ≤ c0) (h1 : BytesAt w a1 l1) (hlen1 : l1.length ≤ 9223372036854775807) (hcap1 : l1.length ≤ c1) :
    Calls Tryz.prog 4 #[.slice a0 l0.length c0, .slice a1 l1.length c1] w fun e w' => e = .returned (.bool true) ∧ Ext w w' := by
  by_cases hb0 : l0.length ≤ 1048576
  · by_cases hb1 : l1.length ≤ 1048576
    · go_enter Tryz.func4, Tryz.ntmps4
      go_wp2_with fail
      refine (drawStrongStates_c a0 c0 l0 _ h0 hb0 hcap0).mono ?_
      rintro e w1 ⟨st, p, q, a, cap, ll, a3, c3, L, x, rfl, hst, hr, hlc, h3, h8, hi, hl, hlc3, hx⟩
      have H8 := Lib.hid (fun i hi => Nat.le_trans (h8 i hi) (show 8 ≤ 4194304 by omega))
      have hr1 := Lib.hid hr
      have hi1 := Lib.hid hi
      have hx1 := Lib.hid hx
      have HB1 := Lib.hid (h1.ext hx)
      have hl10 : L.length ≤ 1048576 := by omega
      clear h8 hr hx hi h0 h1
      go_wp2_with fail
      refine (iStrongStates_c st p q a cap ll x a3 c3 L _ (hr1.out.ext (by (repeat (first | exact Ext.refl _ | assumption | refine Ext.alloc ?_ _ | refine Ext.drewN ?_ _ | refine Ext.drew ?_)))) (by omega) H8.out (hi1.out.ext (by (repeat (first | exact Ext.refl _ | assumption | refine Ext.alloc ?_ _ | refine Ext.drewN ?_ _ | refine Ext.drew ?_)))) hl10).mono ?_
      rintro e w2 ⟨rfl, y⟩
      have hb2 := Lib.hid ((box_made w1 37 st p q (.slice a ll.length cap)).ext y)
      obtain ⟨k0, k1, k2, k3⟩ := hb2.out.out
      have zb := hb2.out.lt
      have hr2 := Lib.hid ((hr1.out.ext (by (repeat (first | exact Ext.refl _ | assumption | refine Ext.alloc ?_ _ | refine Ext.drewN ?_ _ | refine Ext.drew ?_)))).ext y)
      have hi2 := Lib.hid ((hi1.out.ext (by (repeat (first | exact Ext.refl _ | assumption | refine Ext.alloc ?_ _ | refine Ext.drewN ?_ _ | refine Ext.drew ?_)))).ext y)
      have HB2 := Lib.hid ((HB1.out.ext (show Ext w1 _ by (repeat (first | exact Ext.refl _ | assumption | refine Ext.alloc ?_ _ | refine Ext.drewN ?_ _ | refine Ext.drew ?_)))).ext y)
      have hx2 := Lib.hid ((hx1.out.trans (by (repeat (first | exact Ext.refl _ | assumption | refine Ext.alloc ?_ _ | refine Ext.drewN ?_ _ | refine Ext.drew ?_)))).trans y)
      clear y hr1 hx1 hi1 HB1
      have hne : (strongF st p q ll x L != strongF st p q ll x L) = false := by simp
      go_wp2_with fail
      refine (sStrongStates_c st p q a cap ll x a3 c3 L _ (hr2.out.ext (by (repeat (first | exact Ext.refl _ | assumption | refine Ext.alloc ?_ _ | refine Ext.drewN ?_ _ | refine Ext.drew ?_)))) (by omega) H8.out (hi2.out.ext (by (repeat (first | exact Ext.refl _ | assumption | refine Ext.alloc ?_ _ | refine Ext.drewN ?_ _ | refine Ext.drew ?_)))) hl10 hlc3).mono ?_
      rintro e w3 ⟨rfl, y⟩
      have hb3 := Lib.hid ((hb2.out.ext (by (repeat (first | exact Ext.refl _ | assumption | refine Ext.alloc ?_ _ | refine Ext.drewN ?_ _ | refine Ext.drew ?_)))).ext y)
      have hr3 := Lib.hid ((hr2.out.ext (by (repeat (first | exact Ext.refl _ | assumption | refine Ext.alloc ?_ _ | refine Ext.drewN ?_ _ | refine Ext.drew ?_)))).ext y)
      have hi3 := Lib.hid ((hi2.out.ext (by (repeat (first | exact Ext.refl _ | assumption | refine Ext.alloc ?_ _ | refine Ext.drewN ?_ _ | refine Ext.drew ?_)))).ext y)
      have HB3 := Lib.hid ((HB2.out.ext (show Ext w2 _ by (repeat (first | exact Ext.refl _ | assumption | refine Ext.alloc ?_ _ | refine Ext.drewN ?_ _ | refine Ext.drew ?_)))).ext y)
      have hx3 := Lib.hid ((hx2.out.trans (by (repeat (first | exact Ext.refl _ | assumption | refine Ext.alloc ?_ _ | refine Ext.drewN ?_ _ | refine Ext.drew ?_)))).trans y)
      clear y k0 k1 k2 k3 zb hb2 hr2 hx2 hi2 HB2
      rcases strongF_cases st p q ll L x with e0 | ⟨P, Q, X, rfl, rfl, rfl, hv, hs, h1, h5, hX, hP, hQ, hll, e0⟩
      · go_wp2_with fail
        refine (alive_c _).mono ?_
        rintro e w5 ⟨rfl, rfl⟩
        have hx4 := hx3.out.trans (show Ext w3 _ by (repeat (first | exact Ext.refl _ | assumption | refine Ext.alloc ?_ _ | refine Ext.drewN ?_ _ | refine Ext.drew ?_)))
        go_wp2
        go_ret
        exact ⟨rfl, hx4⟩
      · rw [e0]
        have hII : (((img ((treeOf L).rows P Q st ll) X : Nat) : Int) != ((img ((treeOf L).rows P Q st ll) X : Nat) : Int)) = false := by simp
        obtain ⟨hg, -⟩ := treeOf_valid hs
        have hpc := pow2_cast st
        have hp1 := pow2_pos st
        have hp5 : pow2 st ≤ 32 := pow2_le st 5 h5
        have hO := Nat.mod_lt (l1.length * 5) (show 0 < pow2 st by omega)
        have f1 : IntKind.i64.wrap ((l1.length : Int) * 5) = (l1.length : Int) * 5 := IntWalk.i64_in _ (by omega)
        have f2 : IntKind.i64.wrap ((pow2 st : Nat) : Int) = ((pow2 st : Nat) : Int) := IntWalk.i64_in _ (by omega)
        have f3 : ((l1.length : Int) * 5).tmod ((pow2 st : Nat) : Int) = ((l1.length * 5 % pow2 st : Nat) : Int) := rfl
        have f4 : (((pow2 st : Nat) : Int) == 0) = false := by rw [beq_eq_false_iff_ne]; omega
        have hrel := Kt.rows_rel P Q st ll (by omega) hll (treeOf L) hg
        have hI : img ((treeOf L).rows P Q st ll) X < 2 ^ st := img_lt hrel.lt' X
        have hI32 : img ((treeOf L).rows P Q st ll) X < 32 := Nat.lt_of_lt_of_le hI hp5
        have hX32 : X < 32 := Nat.lt_of_lt_of_le hX hp5
        generalize l1.length * 5 % pow2 st = O at *
        have hWl := Kt.weak_lt P Q st ll (treeOf L) O hO
        have hW32 : (treeOf L).weak P Q st ll O < 32 := Nat.lt_of_lt_of_le hWl hp5
        have HSW := Lib.hid (strong_weak P Q st ll h5 hll hg hX hO)
        have HV := Lib.hid hv
        have CW : Hid (∀ w', Ext w3 w' → Calls Tryz.prog 21 #[modelV st P Q a ll.length cap, .slice a3 L.length c3, .int .i64 (O : Nat)] w' fun e w'' => e = .returned (.int .i64 (((treeOf L).weak P Q st ll O : Nat) : Int)) ∧ Ext w' w'') := fun w' hx => by
          have := iWeakStates_c st P Q a cap ll a3 c3 L O w' (hr3.out.ext hx) (by omega) H8.out (hi3.out.ext hx) hl10
          rw [weakF_at hv hs hO] at this; exact this
        have CT : Hid (∀ w' (u : Nat), Ext w3 w' → u < 16 → Calls Tryz.prog 24 #[modelV st P Q a ll.length cap, .int .i64 (u : Nat)] w' fun e w'' => e = .returned (.int .i64 ((tsTo P Q u st : Nat) : Int)) ∧ Ext w' w'') := fun w' u hx hu => by
          have := iTestStates_c st P Q a cap ll u w' (hr3.out.ext hx) (by omega) H8.out
          rw [testF_at hv hu] at this; exact this
        have CG : Hid (∀ w' a4 c4 (L4 : List Int) (B : Nat), Ext w3 w' → IntsAt w' a4 L4 → L4.length ≤ 41 → kvB L4 = true → Calls Tryz.prog 19 #[modelV st P Q a ll.length cap, .int .i64 ((tsTo P Q B st : Nat) : Int), .slice a4 L4.length c4] w' fun e w'' => e = .returned (.int .i64 ((img ((treeOf L4).rows P Q st ll) (tsTo P Q B st) : Nat) : Int)) ∧ Ext w' w'') := fun w' a4 c4 L4 B hx hi4 hl4 hk4 => by
          have := iStrongStates_c st P Q a cap ll (tsTo P Q B st : Nat) a4 c4 L4 w' (hr3.out.ext hx) (by omega) H8.out hi4 (by omega)
          rw [strongF_at hv hk4 (tsTo_lt P Q B st)] at this; exact this
        have HG : Hid (∀ (L4 : List Int) (B : Nat), kvB L4 = true → img ((treeOf L4).rows P Q st ll) (tsTo P Q B st) < 4294967296 ∧ tsTo P Q B st < 4294967296) := fun L4 B hk4 => by
          have h1 := (Kt.rows_rel P Q st ll (by omega) hll (treeOf L4) (treeOf_valid hk4).1)
          have h2 := img_lt h1.lt' (tsTo P Q B st)
          have h3 := tsTo_lt P Q B st
          have h4 : 2 ^ st ≤ 32 := hp5
          omega
        have HTs : Hid (∀ (B : Nat), tsTo P Q B st < 4294967296) := fun B => by
          have h3 := tsTo_lt P Q B st
          have h4 : 2 ^ st ≤ 32 := hp5
          omega
        have HLl := Lib.hid hll
        clear hrel hv hs hI hX hWl hll hg hne hr3 hi3 e0
        generalize (treeOf L).weak P Q st ll O = Wk at *
        generalize img ((treeOf L).rows P Q st ll) X = I at *
        have hI0 : ¬ ((I : Int) < 0) := by omega
        have CB1 : Hid (∀ w', Calls Tryz.prog 25 #[.int .i64 (I : Nat), .int .i64 (O : Nat)] w' fun e w'' => e = .returned (.int .i64 (andN I O : Nat)) ∧ w' = w'') := fun w' => both_c I O w' (by omega) (by omega)
        have CB2 : Hid (∀ w', Calls Tryz.prog 25 #[.int .i64 (X : Nat), .int .i64 (Wk : Nat)] w' fun e w'' => e = .returned (.int .i64 (andN X Wk : Nat)) ∧ w' = w'') := fun w' => both_c X Wk w' (by omega) (by omega)
        have HD : Hid (∃ D, (((andN I O : Nat) : Int) == (I : Int)) = D ∧ (((andN X Wk : Nat) : Int) == (X : Int)) = D) := by
          refine ⟨decide (andN I O = I), ?_, ?_⟩
          · rw [Bool.eq_iff_iff]; simp <;> omega
          · rw [HSW.out, Bool.eq_iff_iff]; simp <;> omega
        clear HSW
        generalize andN I O = IO at *
        generalize andN X Wk = XW at *
        obtain ⟨D, d1, d2⟩ := HD.out
        clear HD
        generalize hL : L.length = nL at *
        clear hL
        obtain ⟨k0, k1, k2, k3⟩ := hb3.out.out
        have zb := hb3.out.lt
        go_wp2_with fail
        refine (CW.out _ (by (repeat (first | exact Ext.refl _ | assumption | refine Ext.alloc ?_ _ | refine Ext.drewN ?_ _ | refine Ext.drew ?_)))).mono ?_
        rintro e w4 ⟨rfl, y⟩
        have hx4 := Lib.hid (Ext.trans (show Ext w3 _ by (repeat (first | exact Ext.refl _ | assumption | refine Ext.alloc ?_ _ | refine Ext.drewN ?_ _ | refine Ext.drew ?_))) y)
        clear y k0 k1 k2 k3 zb CW
        obtain ⟨k0, k1, k2, k3⟩ := (hb3.out.ext hx4.out).out
        have zb := (hb3.out.ext hx4.out).lt
        go_wp2_with fail
        refine (drawTripleOk_c a1 c1 l1 _ (HB3.out.ext (hx4.out.trans (by (repeat (first | exact Ext.refl _ | assumption | refine Ext.alloc ?_ _ | refine Ext.drewN ?_ _ | refine Ext.drew ?_))))) hb1 hcap1).mono ?_
        rintro e w5 ⟨p5, q5, a5, c5, L5, rfl, i5, hl5, y⟩
        have hx5 := Lib.hid (hx4.out.trans (Ext.trans (show Ext w4 _ by (repeat (first | exact Ext.refl _ | assumption | refine Ext.alloc ?_ _ | refine Ext.drewN ?_ _ | refine Ext.drew ?_))) y))
        have HI5 := Lib.hid i5
        clear y k0 k1 k2 k3 zb i5
        obtain ⟨k0, k1, k2, k3⟩ := (hb3.out.ext hx5.out).out
        have zb := (hb3.out.ext hx5.out).lt
        have CTr : Hid (∀ w', Ext w5 w' → Calls Tryz.prog 23 #[.int .i64 p5, .slice a5 L5.length c5, .int .i64 q5] w' (RetTri w' L5 p5 q5)) := fun w' x => iTripleOk_c p5 q5 a5 c5 L5 w' (HI5.out.ext x) (by omega)
        generalize hn5 : L5.length = n5 at *
        have HN5 := Lib.hid hn5
        clear hn5
        go_wp2_with fail
        refine (CTr.out _ (by (repeat (first | exact Ext.refl _ | assumption | refine Ext.alloc ?_ _ | refine Ext.drewN ?_ _ | refine Ext.drew ?_)))).mono ?_
        rintro e w6 ⟨bb, rfl, y, htr⟩
        have HTr := Lib.hid htr
        have hx56 := Lib.hid (Ext.trans (show Ext w5 _ by (repeat (first | exact Ext.refl _ | assumption | refine Ext.alloc ?_ _ | refine Ext.drewN ?_ _ | refine Ext.drew ?_))) y)
        have hx6 := Lib.hid (hx5.out.trans hx56.out)
        clear y k0 k1 k2 k3 zb htr
        obtain ⟨k0, k1, k2, k3⟩ := (hb3.out.ext hx6.out).out
        have zb := (hb3.out.ext hx6.out).lt
        cases bb
        · go_wp2_with (first | (go_at_call 25; with_reducible refine (CB1.out _).mono ?_; rintro e w' ⟨rfl, rfl⟩) | (go_at_call 25; with_reducible refine (CB2.out _).mono ?_; rintro e w' ⟨rfl, rfl⟩))
          go_ret
          exact ⟨by first | rfl | (rw [d1, d2]; simp), hx3.out.trans (hx6.out.trans (by (repeat (first | exact Ext.refl _ | assumption | refine Ext.alloc ?_ _ | refine Ext.drewN ?_ _ | refine Ext.drew ?_))))⟩
        · obtain ⟨B, T, rfl, rfl, hB, hT, hk5, hled⟩ := (HTr.out rfl).led
          have hand := hled P Q st ll h5 HLl.out
          have hgb := HG.out L5 B hk5
          have CG1 : Hid (∀ w', Ext w6 w' → Calls Tryz.prog 19 #[modelV st P Q a ll.length cap, .int .i64 ((tsTo P Q B st : Nat) : Int), .slice a5 n5 c5] w' fun e w'' => e = .returned (.int .i64 ((img ((treeOf L5).rows P Q st ll) (tsTo P Q B st) : Nat) : Int)) ∧ Ext w' w'') := fun w' x => by
            have := CG.out w' a5 c5 L5 B (hx6.out.trans x) (HI5.out.ext (hx56.out.trans x)) (by rw [HN5.out]; exact hl5) hk5
            rw [HN5.out] at this; exact this
          have CTB : Hid (∀ w', Ext w6 w' → Calls Tryz.prog 24 #[modelV st P Q a ll.length cap, .int .i64 (B : Nat)] w' fun e w'' => e = .returned (.int .i64 ((tsTo P Q B st : Nat) : Int)) ∧ Ext w' w'') := fun w' x => CT.out w' B (hx6.out.trans x) hB
          have CTT : Hid (∀ w', Ext w6 w' → Calls Tryz.prog 24 #[modelV st P Q a ll.length cap, .int .i64 (T : Nat)] w' fun e w'' => e = .returned (.int .i64 ((tsTo P Q T st : Nat) : Int)) ∧ Ext w' w'') := fun w' x => CT.out w' T (hx6.out.trans x) hT
          have hts := HTs.out T
          clear hled HTr CT CG HG HTs HLl hk5
          generalize img ((treeOf L5).rows P Q st ll) (tsTo P Q B st) = G at *
          generalize tsTo P Q B st = tB at *
          generalize tsTo P Q T st = tT at *
          have CB3 : Hid (∀ w', Calls Tryz.prog 25 #[.int .i64 (G : Nat), .int .i64 (tT : Nat)] w' fun e w'' => e = .returned (.int .i64 (G : Nat)) ∧ w' = w'') := fun w' => by
            have := both_c G tT w' hgb.1 hts
            rw [hand] at this; exact this
          have hGG : ((G : Int) != (G : Int)) = false := by simp
          clear hand hgb hts
          have HBx := Lib.hid (hb3.out.ext hx6.out)
          clear k0 k1 k2 k3 zb
          go_wp2
          have k0 := cell_regrown HBx.out.1
          have k1 := cell_regrown HBx.out.2.1
          have k2 := cell_regrown HBx.out.2.2.1
          have k3 := cell_regrown HBx.out.2.2.2
          have cB : ∀ d os, Calls Tryz.prog 24 #[modelV st P Q a ll.length cap, .int .i64 (B : Nat)] (grow (redrawn w6 d) os) fun e w'' => e = .returned (.int .i64 (tB : Nat)) ∧ ∃ p : Regrown, w'' = grow (redrawn w6 p.d) p.os := fun d os => Calls.regrown_of (CTB.out _ (below_regrown w6 d os))
          have cG : ∀ d os, Calls Tryz.prog 19 #[modelV st P Q a ll.length cap, .int .i64 (tB : Nat), .slice a5 n5 c5] (grow (redrawn w6 d) os) fun e w'' => e = .returned (.int .i64 (G : Nat)) ∧ ∃ p : Regrown, w'' = grow (redrawn w6 p.d) p.os := fun d os => Calls.regrown_of (CG1.out _ (below_regrown w6 d os))
          refine wp_region_below_lit (by kernel_rfl) (by kernel_rfl) ?_
          repeat (quiet_step (first | (go_at_call 24; with_reducible exact cB _ _) | (go_at_call 19; with_reducible exact cG _ _)))
          refine wpQuiet_nil ?_
          intro _ hw8
          obtain ⟨⟨dq, osq⟩, hw8⟩ := hw8
          subst hw8
          have X8 : Hid (Ext w6 (grow (redrawn w6 dq) osq)) := below_regrown w6 dq osq
          clear k0 k1 k2 k3 cB cG
          generalize grow (redrawn w6 dq) osq = w8 at *
          obtain ⟨k0, k1, k2, k3⟩ := (HBx.out.ext X8.out).out
          have zb := (HBx.out.ext X8.out).lt
          go_wp2_with fail
          refine (CTT.out _ (X8.out.trans (by (repeat (first | exact Ext.refl _ | assumption | refine Ext.alloc ?_ _ | refine Ext.drewN ?_ _ | refine Ext.drew ?_))))).mono ?_
          rintro e w9 ⟨rfl, y⟩
          have hx9 := Lib.hid (X8.out.trans (Ext.trans (show Ext w8 _ by (repeat (first | exact Ext.refl _ | assumption | refine Ext.alloc ?_ _ | refine Ext.drewN ?_ _ | refine Ext.drew ?_))) y))
          clear y k0 k1 k2 k3 zb
          go_wp2_with (first | (go_at_call 25; with_reducible refine (CB3.out _).mono ?_; rintro e w' ⟨rfl, rfl⟩) | (go_at_call 25; with_reducible refine (CB1.out _).mono ?_; rintro e w' ⟨rfl, rfl⟩) | (go_at_call 25; with_reducible refine (CB2.out _).mono ?_; rintro e w' ⟨rfl, rfl⟩))
          go_ret
          exact ⟨by first | rfl | (rw [d1, d2]; simp), hx3.out.trans (hx6.out.trans (hx9.out.trans (by (repeat (first | exact Ext.refl _ | assumption | refine Ext.alloc ?_ _ | refine Ext.drewN ?_ _ | refine Ext.drew ?_)))))⟩
    · have hb1i : ¬ (l1.length : Int) ≤ 1048576 := by omega
      go_enter Tryz.func4, Tryz.ntmps4
      go_wp2
      go_ret
      exact ⟨rfl, Ext.refl _⟩
  · have hb0i : ¬ (l0.length : Int) ≤ 1048576 := by omega
    go_enter Tryz.func4, Tryz.ntmps4
    go_wp2
    go_ret
    exact ⟨rfl, Ext.refl _⟩
end Go.Proofs.YtlaamecfknkmlaaGreat
