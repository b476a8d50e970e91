/- For every input the law FnExactCodeRun returns true, and its arguments read afterwards as they read before: the statement's frame round the contract. -/
import Derived.Test.YtgpfebpjiddjjaaDoorLExactCodeRun
import Derived.Test.YtgpfebpjiddjjaaDoorFrame
import Derived.Test.YtgpfebpjiddjjaaDoorFrameT
import Derived.Test.YtgpfebpjiddjjaaDoorCards
import Derived.Test.YtgpfebpjiddjjaaDoorTie
import Derived.SevenTiedAt
import Derived.Test.YtgpfebpjiddjjaaDoorFrameM
import Derived.Test.YtgpfebpjiddjjaaDoorFrameC
namespace Go.Proofs.YtgpfebpjiddjjaaDoor.fnExactCodeRun
open Go.ChangeShapes Go.WideShapes Go.ChangeAt Go.RowKit Go.Kt
set_option linter.unusedVariables false


set_option maxRecDepth 100000 in
theorem lifted (os : Os) (started : os.Started) (H : Type) (enc : TypeId × Value → H) :
    ReturnsInHanded {} Tryd.checked os 3 .any (fun w args => (Rows.fnExactCodeRunSpec.pre enc Tryd.prog Tryd.f3 [] false w args ∧ laidMetH Tryd.prog laidT w) ∧ sizedMet enc Tryd.prog Tryd.f3 (OpenSpec.ofChange Rows.fnExactCodeRunSpec) false w args) (Rows.fnExactCodeRunSpec.post enc Tryd.prog Tryd.f3 false true false false) := by
  refine returnsInHanded_of_change_and (C := Tryd.checked) (X := fun w _ => laidMetH Tryd.prog laidT w) (fun _ _ _ hh h => h.of_heap hh) Tryd.ownK started (by kernel_rfl) Tryd.func3
    (ChangeSpec.witness_shaped (enc := enc) (C := Tryd.checked) (os := os) (X := fun w _ => laidMetH Tryd.prog laidT w) false (World.doorLaid Tryd.prog 4000 os) #[.agg #[.int .i64 0, .int .i64 0, .int .i64 0, .slice none 0 0], .slice none 0 0, .int .i64 0] 8 rfl (World.shaped_of_RefB (by kernel_rfl) (by kernel_rfl)) (by kernel_rfl) (by kernel_rfl) (by kernel_rfl) (door_met os _)) ?_
  intro W base args ds gs before hval0 hW _ _ hL _
  have hval : ∀ (j : Nat) t v, Tryd.f3.params[j]? = some t → args[j]? = some v → Value.okWide Tryd.prog W .any base t v := hval0
  have hW' := hW
  obtain ⟨p, q, hA0, hV, rfl, hfz, hnd⟩ := hW
  have hA : DataW.TrodAll enc Tryd.prog W 0 (fun _ => true) true Tryd.f3.params.toList args.toList ds p := hA0
  rw [Tryd.params3] at hA hval
  obtain ⟨v0, vs0, d0, ds0, p0, q0, hargs, rfl, rfl, h0, r0⟩ := trodAll_cons hA
  obtain ⟨v1, vs1, d1, ds1, p1, q1, rfl, rfl, rfl, h1, r1⟩ := trodAll_cons r0
  obtain ⟨v2, vs2, d2, ds2, p2, q2, rfl, rfl, rfl, h2, r2⟩ := trodAll_cons r1
  obtain ⟨rfl, rfl, rfl⟩ := trodAll_nil r2
  obtain rfl : args = #[v0, v1, v2] := by cases args; simp_all
  obtain ⟨rfl, rfl⟩ := trodVars_none hV
  have k0 := h0
  have lt0 : ∀ x ∈ p0, x.block < W.heap.size := by obtain ⟨m, hm⟩ := k0; exact DataW.trod_lt m _ _ _ hm
  obtain ⟨st0, pp0, qq0, a0, cap0, ll0, rfl, w0, m0⟩ := open_model (hval 0 24 v0 rfl rfl) h0
  have k1 := h1
  have lt1 : ∀ x ∈ p1, x.block < W.heap.size := by obtain ⟨m, hm⟩ := k1; exact DataW.trod_lt m _ _ _ hm
  obtain ⟨a1, n1, cap1, L1, rfl, w1, m1⟩ := open_inss (hval 1 25 v1 rfl rfl) h1
  obtain ⟨a2, rfl, rfl, rfl, w2⟩ := open_int Tryd.underlying3 (hval 2 3 v2 rfl rfl) h2
  clear hA0 hval0
  refine (fnExactCodeRun_c st0 pp0 qq0 a0 cap0 ll0 a1 n1 cap1 L1 a2 W w0 m0.1 m0.2 w1 m1 (tab_of_laid hL)).mono fun e W' ⟨he, bel⟩ => ?_
  subst he
  exact ⟨_, rfl, _, _, _, [], _, [], hW', trodAll_mk1 (shut_bool Tryd.underlying4 _), (trodAll_cons_mk (Below.trod Tryd.laidOutB (by kernel_rfl) (of_decide_eq_true (by kernel_rfl)) k0 bel lt0) (trodAll_cons_mk (Below.trod Tryd.laidOutB (by kernel_rfl) (of_decide_eq_true (by kernel_rfl)) k1 bel lt1) (trodAll_cons_mk (shut_int Tryd.underlying3 w2) trodAll_mk0))), rfl, bel.frame _, fun h => by cases h⟩
theorem k1 : Rows.fnExactCodeRunRow.wf (OpenSpec.ofChange Rows.fnExactCodeRunSpec) = true := by kernel_rfl
theorem k4 : Tryd.f3.params.all (Tryd.prog.readableRec ·) = true := by kernel_rfl
theorem k5 : namedTie Tryd.prog Rows.fnExactCodeRunRow.named Rows.fnExactCodeRunSpec.vars = true := by kernel_rfl
theorem k6 : (Rows.fnExactCodeRunRow.stops == []) = true := by kernel_rfl
theorem k8 : (Rows.fnExactCodeRunRow.knobs == []) = true := by kernel_rfl
theorem k10 : (Rows.fnExactCodeRunRow.inPlace == Tryd.prog.inPlace 3) = true := by kernel_rfl
theorem k11 : (Rows.fnExactCodeRunRow.unfollowed == Tryd.prog.unfollowed 3) = true := by kernel_rfl
theorem k12 : (Rows.fnExactCodeRunRow.recurses == Tryd.prog.recurses 3) = true := by kernel_rfl
theorem k13 : (Rows.fnExactCodeRunRow.named == Tryd.prog.varsNamed 3) = true := by kernel_rfl
theorem k14 : (Rows.fnExactCodeRunRow.maps == (Tryd.f3.params.toList ++ Rows.fnExactCodeRunSpec.plain.varTypes Tryd.prog).any (Tryd.prog.mapsRec ·)) = true := by kernel_rfl
theorem k15 : (Rows.fnExactCodeRunRow.ifaces == (Tryd.f3.params.toList ++ Rows.fnExactCodeRunSpec.plain.varTypes Tryd.prog).any (Tryd.prog.ifacesRec ·)) = true := by kernel_rfl
theorem k16 : (Rows.fnExactCodeRunRow.mapsOut == Tryd.prog.mapsAmong Tryd.f3.resultTypes.toList) = true := by kernel_rfl
theorem k17 : (Rows.fnExactCodeRunRow.loops == (Tryd.f3.params.toList ++ Rows.fnExactCodeRunSpec.plain.varTypes Tryd.prog).any (Tryd.prog.loopsFrom ·)) = true := by kernel_rfl
theorem k18 : (Rows.fnExactCodeRunRow.wideKeys == (Tryd.f3.params.toList ++ Rows.fnExactCodeRunSpec.plain.varTypes Tryd.prog ++ Tryd.f3.resultTypes.toList).any (Tryd.prog.wideKeysFrom ·)) = true := by kernel_rfl
theorem k19 : Rows.fnExactCodeRunSpec.vars.all (Tryd.prog.varReadable ·) = true := by kernel_rfl
theorem k20 : Tryd.f3.resultTypes.all (fun t => Tryd.prog.readableRec t && decide (t < Tryd.prog.types.size)) = true := by kernel_rfl
theorem k21 : (Rows.fnExactCodeRunRow.ifacesOut == Tryd.f3.resultTypes.toList.any (Tryd.prog.ifacesRec ·)) = true := by kernel_rfl
theorem k22 : (Rows.fnExactCodeRunRow.loopsOut == Tryd.f3.resultTypes.toList.any (Tryd.prog.loopsFrom ·)) = true := by kernel_rfl
theorem k23 : (Rows.fnExactCodeRunRow.plainKeys == Tryd.prog.plainKeys) = true := by kernel_rfl
theorem k24 : Rows.fnExactCodeRunRow.shortTexts.isNone = true := by kernel_rfl
theorem k29 : (Rows.fnExactCodeRunRow.kinds == (if Rows.fnExactCodeRunRow.domain.isEmpty then [] else Tryd.f3.params.toList.map fun t => match Tryd.prog.underlying t with | some (.int k) => some k | _ => none)) = true := by kernel_rfl
theorem k30 : (Rows.fnExactCodeRunRow.pinned == Rows.fnExactCodeRunRow.pinnedBy) = true := by kernel_rfl
theorem k31 : (Rows.fnExactCodeRunRow.veiled == (Tryd.f3.params.toList ++ Rows.fnExactCodeRunSpec.plain.varTypes Tryd.prog ++ Tryd.f3.resultTypes.toList).any (Tryd.prog.veiledRec ·)) = true := by kernel_rfl
theorem k32 : Rows.fnExactCodeRunRow.veiledFits Tryd.prog Tryd.f3.params.toList (Tryd.f3.params.toList ++ Rows.fnExactCodeRunSpec.plain.varTypes Tryd.prog ++ Tryd.f3.resultTypes.toList) = true := by kernel_rfl
set_option maxRecDepth 100000 in
theorem closed : joinedFacts Tryd.pinned.checked.prog 3 Tryd.f3 Rows.fnExactCodeRunSpec Rows.fnExactCodeRunRow = true := (andT (andT (andT (andT (andT (andT (andT (andT (andT (andT (andT (andT (andT (andT (andT (andT (andT (andT (andT (andT (andT (andT (andT (andT (andT (andT (andT (andT (andT (andT (andT k1 Tryd.laidOutB) Tryd.mapsRowed) k4) k5) k6) Tryd.noStops) k8) Tryd.noStopKnobs) k10) k11) k12) k13) k14) k15) k16) k17) k18) k19) k20) k21) k22) k23) k24) Tryd.stopsHeard) Tryd.mayEnter) Tryd.lifted) Tryd.made) k29) k30) k31) k32)

theorem named : Tryd.pinned.checked.prog.funcNamed Rows.fnExactCodeRunRow.func = some 3 := by kernel_rfl
theorem inst : Func.isInstance Tryd.pinned.checked.prog Tryd.f3 Rows.fnExactCodeRunRow.origin Rows.fnExactCodeRunRow.targs := of_decide_eq_true (by kernel_rfl)
theorem wrap : Func.isWrapper Tryd.pinned.checked.prog Tryd.f3 Rows.fnExactCodeRunRow.wrapper Rows.fnExactCodeRunRow.mainSum := by unfold Func.isWrapper; first | (rw [if_pos (by decide +kernel)]; kernel_rfl) | (rw [if_neg (by decide +kernel)]; exact ⟨rfl, rfl⟩)
theorem over : Rows.fnExactCodeRunRow.holds Tryd.pinned (OpenSpec.ofChange Rows.fnExactCodeRunSpec) :=
  OpenClaim.holds_of_wide 3 Tryd.f3 rfl rfl rfl rfl rfl rfl rfl ⟨rfl, rfl, rfl, rfl, rfl⟩ rfl rfl rfl rfl rfl named Tryd.func3 closed inst wrap
    (fun os started H enc _ => lifted os started H enc)
end Go.Proofs.YtgpfebpjiddjjaaDoor.fnExactCodeRun
namespace Go.Proofs.YtgpfebpjiddjjaaDoor
/-- The row's statement. -/
theorem fnExactCodeRun_row : Rows.FnExactCodeRunSaid := fnExactCodeRun.over
set_option maxRecDepth 100000 in
/-- The given statement: the tied card. -/
theorem fnExactCodeRun_holds : Rows.FnExactCodeRunCardSaid :=
  Claim7.holds_tied_plain_at .later [] [.data, .data] true (true, Rows.fnExactCodeRunCard.stood.harness.2) true
    fnExactCodeRun_row (fun _ h => by cases h) (by kernel_rfl) (fun _ h => by cases h) fnExactCodeRun_row_tie rfl ⟨rfl, rfl⟩ (by kernel_rfl) rfl
    (fun f fn hf hfn => by
      obtain rfl : f = 3 := Option.some.inj ((show Tryd.prog.funcNamed "loop.example/kleenetests/laws.FnExactCodeRun" = some 3 by kernel_rfl).symm.trans hf) |>.symm
      obtain rfl : fn = Tryd.f3 := (Option.some.inj (Tryd.func3.symm.trans hfn)).symm
      exact ⟨by kernel_rfl, fun j t ht => by
        rw [Tryd.params3] at ht
        have hm : t ∈ [24, 25, 3] := by simpa using Array.mem_of_getElem? ht
        have hall : ([24, 25, 3].all fun u => !Tryd.prog.wantsStandIn u) = true := by kernel_rfl
        exact (show Tryd.prog.wantsStandIn t = false by simpa using List.all_eq_true.1 hall t hm)⟩)
    (by kernel_rfl)
end Go.Proofs.YtgpfebpjiddjjaaDoor
