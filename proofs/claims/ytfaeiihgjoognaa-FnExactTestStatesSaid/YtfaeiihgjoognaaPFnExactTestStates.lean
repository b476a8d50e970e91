/- For every input the law FnExactTestStates returns true, and its arguments read afterwards as they read before: the statement's frame round the contract. -/
import Derived.Test.YtfaeiihgjoognaaLExactTestStates
import Derived.Test.YtfaeiihgjoognaaFrame
import Derived.Test.YtfaeiihgjoognaaFrameM
namespace Go.Proofs.Ytfaeiihgjoognaa.fnExactTestStates
open Go.ChangeShapes Go.WideShapes Go.ChangeAt Go.RowKit Go.Kt
set_option linter.unusedVariables false


set_option maxRecDepth 100000 in
theorem lifted (os : Os) (started : os.Started) (H : Type) (enc : TypeId × Value → H) :
    ReturnsInHanded {} Try.checked os 17 .any (Rows.fnExactTestStatesSpec.pre6 enc Try.prog Try.f17 Rows.fnExactTestStatesRow.domain false) (Rows.fnExactTestStatesSpec.post enc Try.prog Try.f17 false true false false) := by
  refine returnsInHanded_of_change (C := Try.checked) Try.ownK started (by kernel_rfl) Try.func17
    (ChangeSpec.witness6 (enc := enc) (C := Try.checked) false ⟨#[], #[.agg #[.int .i64 0, .int .i64 0, .int .i64 0, .slice none 0 0], .int .i64 0], []⟩ 8 (by kernel_rfl) (by kernel_rfl) (by kernel_rfl) (by kernel_rfl)) ?_
  intro W base args ds gs before hval0 hW hcnd _
  have hval : ∀ (j : Nat) t v, Try.f17.params[j]? = some t → args[j]? = some v → Value.okWide Try.prog W .any base t v := hval0
  have hW' := hW
  obtain ⟨p, q, hA0, hV, rfl, hfz, hnd⟩ := hW
  have hA : DataW.TrodAll enc Try.prog W 0 (fun _ => true) true Try.f17.params.toList args.toList ds p := hA0
  rw [Try.params17] at hA hval
  obtain ⟨v0, vs0, d0, ds0, p0, q0, hargs, rfl, rfl, h0, r0⟩ := trodAll_cons hA
  obtain ⟨v1, vs1, d1, ds1, p1, q1, rfl, rfl, rfl, h1, r1⟩ := trodAll_cons r0
  obtain ⟨rfl, rfl, rfl⟩ := trodAll_nil r1
  obtain rfl : args = #[v0, v1] := by cases args; simp_all
  obtain ⟨rfl, rfl⟩ := trodVars_none hV
  have k0 := h0
  have lt0 : ∀ x ∈ p0, x.block < W.heap.size := by obtain ⟨m, hm⟩ := k0; exact DataW.trod_lt m _ _ _ hm
  obtain ⟨st0, pp0, qq0, a0, cap0, ll0, rfl, w0, m0⟩ := open_model (hval 0 40 v0 rfl rfl) h0
  obtain ⟨a1, rfl, rfl, rfl, w1⟩ := open_int Try.underlying3 (hval 1 3 v1 rfl rfl) h1
  clear hA0 hval0
  refine (fnExactTestStates_c st0 pp0 qq0 a0 cap0 ll0 a1 W w0 m0.1 m0.2).mono fun e W' ⟨he, bel⟩ => ?_
  subst he
  exact ⟨_, rfl, _, _, _, [], _, [], hW', trodAll_mk1 (shut_bool Try.underlying4 _), (trodAll_cons_mk (Below.trod Try.laidOutB (by kernel_rfl) (of_decide_eq_true (by kernel_rfl)) k0 bel lt0) (trodAll_cons_mk (shut_int Try.underlying3 w1) trodAll_mk0)), rfl, bel.frame _, fun h => by cases h⟩
theorem k1 : Rows.fnExactTestStatesRow.wf (OpenSpec.ofChange Rows.fnExactTestStatesSpec) = true := by kernel_rfl
theorem k4 : Try.f17.params.all (Try.prog.readableRec ·) = true := by kernel_rfl
theorem k5 : namedTie Try.prog Rows.fnExactTestStatesRow.named Rows.fnExactTestStatesSpec.vars = true := by kernel_rfl
theorem k6 : (Rows.fnExactTestStatesRow.stops == []) = true := by kernel_rfl
theorem k8 : (Rows.fnExactTestStatesRow.knobs == []) = true := by kernel_rfl
theorem k10 : (Rows.fnExactTestStatesRow.inPlace == Try.prog.inPlace 17) = true := by kernel_rfl
theorem k11 : (Rows.fnExactTestStatesRow.unfollowed == Try.prog.unfollowed 17) = true := by kernel_rfl
theorem k12 : (Rows.fnExactTestStatesRow.recurses == Try.prog.recurses 17) = true := by kernel_rfl
theorem k13 : (Rows.fnExactTestStatesRow.named == Try.prog.varsNamed 17) = true := by kernel_rfl
theorem k14 : (Rows.fnExactTestStatesRow.maps == (Try.f17.params.toList ++ Rows.fnExactTestStatesSpec.plain.varTypes Try.prog).any (Try.prog.mapsRec ·)) = true := by kernel_rfl
theorem k15 : (Rows.fnExactTestStatesRow.ifaces == (Try.f17.params.toList ++ Rows.fnExactTestStatesSpec.plain.varTypes Try.prog).any (Try.prog.ifacesRec ·)) = true := by kernel_rfl
theorem k16 : (Rows.fnExactTestStatesRow.mapsOut == Try.prog.mapsAmong Try.f17.resultTypes.toList) = true := by kernel_rfl
theorem k17 : (Rows.fnExactTestStatesRow.loops == (Try.f17.params.toList ++ Rows.fnExactTestStatesSpec.plain.varTypes Try.prog).any (Try.prog.loopsFrom ·)) = true := by kernel_rfl
theorem k18 : (Rows.fnExactTestStatesRow.wideKeys == (Try.f17.params.toList ++ Rows.fnExactTestStatesSpec.plain.varTypes Try.prog ++ Try.f17.resultTypes.toList).any (Try.prog.wideKeysFrom ·)) = true := by kernel_rfl
theorem k19 : Rows.fnExactTestStatesSpec.vars.all (Try.prog.varReadable ·) = true := by kernel_rfl
theorem k20 : Try.f17.resultTypes.all (fun t => Try.prog.readableRec t && decide (t < Try.prog.types.size)) = true := by kernel_rfl
theorem k21 : (Rows.fnExactTestStatesRow.ifacesOut == Try.f17.resultTypes.toList.any (Try.prog.ifacesRec ·)) = true := by kernel_rfl
theorem k22 : (Rows.fnExactTestStatesRow.loopsOut == Try.f17.resultTypes.toList.any (Try.prog.loopsFrom ·)) = true := by kernel_rfl
theorem k23 : (Rows.fnExactTestStatesRow.plainKeys == Try.prog.plainKeys) = true := by kernel_rfl
theorem k24 : Rows.fnExactTestStatesRow.shortTexts.isNone = true := by kernel_rfl
theorem k29 : (Rows.fnExactTestStatesRow.kinds == (if Rows.fnExactTestStatesRow.domain.isEmpty then [] else Try.f17.params.toList.map fun t => match Try.prog.underlying t with | some (.int k) => some k | _ => none)) = true := by kernel_rfl
theorem k30 : (Rows.fnExactTestStatesRow.pinned == Rows.fnExactTestStatesRow.pinnedBy) = true := by kernel_rfl
theorem k31 : (Rows.fnExactTestStatesRow.veiled == (Try.f17.params.toList ++ Rows.fnExactTestStatesSpec.plain.varTypes Try.prog ++ Try.f17.resultTypes.toList).any (Try.prog.veiledRec ·)) = true := by kernel_rfl
theorem k32 : Rows.fnExactTestStatesRow.veiledFits Try.prog Try.f17.params.toList (Try.f17.params.toList ++ Rows.fnExactTestStatesSpec.plain.varTypes Try.prog ++ Try.f17.resultTypes.toList) = true := by kernel_rfl
theorem closed : joinedFacts Try.pinned.checked.prog 17 Try.f17 Rows.fnExactTestStatesSpec Rows.fnExactTestStatesRow = true := (andT (andT (andT (andT (andT (andT (andT (andT (andT (andT (andT (andT (andT (andT (andT (andT (andT (andT (andT (andT (andT (andT (andT (andT (andT (andT (andT (andT (andT (andT (andT k1 Try.laidOutB) Try.mapsRowed) k4) k5) k6) Try.noStops) k8) Try.noStopKnobs) k10) k11) k12) k13) k14) k15) k16) k17) k18) k19) k20) k21) k22) k23) k24) Try.stopsHeard) Try.mayEnter) Try.lifted) Try.made) k29) k30) k31) k32)

theorem named : Try.pinned.checked.prog.funcNamed Rows.fnExactTestStatesRow.func = some 17 := by kernel_rfl
theorem inst : Func.isInstance Try.pinned.checked.prog Try.f17 Rows.fnExactTestStatesRow.origin Rows.fnExactTestStatesRow.targs := of_decide_eq_true (by kernel_rfl)
theorem wrap : Func.isWrapper Try.pinned.checked.prog Try.f17 Rows.fnExactTestStatesRow.wrapper Rows.fnExactTestStatesRow.mainSum := by unfold Func.isWrapper; first | (rw [if_pos (by decide +kernel)]; kernel_rfl) | (rw [if_neg (by decide +kernel)]; exact ⟨rfl, rfl⟩)
theorem over : Rows.fnExactTestStatesRow.holds Try.pinned (OpenSpec.ofChange Rows.fnExactTestStatesSpec) :=
  OpenClaim.holds_of_wide 17 Try.f17 rfl rfl rfl rfl rfl rfl rfl ⟨rfl, rfl, rfl, rfl, rfl⟩ rfl rfl rfl rfl rfl named Try.func17 closed inst wrap
    (fun os started H enc _ => lifted os started H enc)
end Go.Proofs.Ytfaeiihgjoognaa.fnExactTestStates
namespace Go.Proofs.Ytfaeiihgjoognaa
/-- The given statement. -/
theorem fnExactTestStates_holds : Rows.FnExactTestStatesSaid := fnExactTestStates.over
end Go.Proofs.Ytfaeiihgjoognaa
