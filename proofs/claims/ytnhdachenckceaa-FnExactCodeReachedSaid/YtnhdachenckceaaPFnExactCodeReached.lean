/- For every input the law FnExactCodeReached returns true, and its arguments read afterwards as they read before: the statement's frame round the contract. -/
import Derived.Test.YtnhdachenckceaaLExactCodeReached
import Derived.Test.YtnhdachenckceaaFrame
import Derived.Test.YtnhdachenckceaaFrameC
namespace Go.Proofs.Ytnhdachenckceaa.fnExactCodeReached
open Go.ChangeShapes Go.WideShapes Go.ChangeAt Go.RowKit Go.Kt
set_option linter.unusedVariables false


set_option maxRecDepth 100000 in
theorem lifted (os : Os) (started : os.Started) (H : Type) (enc : TypeId × Value → H) :
    ReturnsInHanded {} Try.checked os 7 .any (Rows.fnExactCodeReachedSpec.pre6 enc Try.prog Try.f7 Rows.fnExactCodeReachedRow.domain false) (Rows.fnExactCodeReachedSpec.post enc Try.prog Try.f7 false true false false) := by
  refine returnsInHanded_of_change (C := Try.checked) Try.ownK started (by kernel_rfl) Try.func7
    (ChangeSpec.witness6 (enc := enc) (C := Try.checked) false ⟨#[], #[.slice none 0 0], []⟩ 8 (by kernel_rfl) (by kernel_rfl) (by kernel_rfl) (by kernel_rfl)) ?_
  intro W base args ds gs before hval0 hW hcnd _
  have hval : ∀ (j : Nat) t v, Try.f7.params[j]? = some t → args[j]? = some v → Value.okWide Try.prog W .any base t v := hval0
  have hW' := hW
  obtain ⟨p, q, hA0, hV, rfl, hfz, hnd⟩ := hW
  have hA : DataW.TrodAll enc Try.prog W 0 (fun _ => true) true Try.f7.params.toList args.toList ds p := hA0
  rw [Try.params7] at hA hval
  obtain ⟨v0, vs0, d0, ds0, p0, q0, hargs, rfl, rfl, h0, r0⟩ := trodAll_cons hA
  obtain ⟨rfl, rfl, rfl⟩ := trodAll_nil r0
  obtain rfl : args = #[v0] := by cases args; simp_all
  obtain ⟨rfl, rfl⟩ := trodVars_none hV
  have k0 := h0
  have lt0 : ∀ x ∈ p0, x.block < W.heap.size := by obtain ⟨m, hm⟩ := k0; exact DataW.trod_lt m _ _ _ hm
  obtain ⟨a0, n0, cap0, L0, rfl, w0, m0⟩ := open_inss (hval 0 26 v0 rfl rfl) h0
  clear hA0 hval0
  refine (fnExactCodeReached_c a0 n0 cap0 L0 W w0 m0).mono fun e W' ⟨he, bel⟩ => ?_
  subst he
  exact ⟨_, rfl, _, _, _, [], _, [], hW', trodAll_mk1 (shut_bool Try.underlying4 _), (trodAll_cons_mk (Below.trod Try.laidOutB (by kernel_rfl) (of_decide_eq_true (by kernel_rfl)) k0 bel lt0) trodAll_mk0), rfl, bel.frame _, fun h => by cases h⟩
theorem k1 : Rows.fnExactCodeReachedRow.wf (OpenSpec.ofChange Rows.fnExactCodeReachedSpec) = true := by kernel_rfl
theorem k4 : Try.f7.params.all (Try.prog.readableRec ·) = true := by kernel_rfl
theorem k5 : namedTie Try.prog Rows.fnExactCodeReachedRow.named Rows.fnExactCodeReachedSpec.vars = true := by kernel_rfl
theorem k6 : (Rows.fnExactCodeReachedRow.stops == []) = true := by kernel_rfl
theorem k8 : (Rows.fnExactCodeReachedRow.knobs == []) = true := by kernel_rfl
theorem k10 : (Rows.fnExactCodeReachedRow.inPlace == Try.prog.inPlace 7) = true := by kernel_rfl
theorem k11 : (Rows.fnExactCodeReachedRow.unfollowed == Try.prog.unfollowed 7) = true := by kernel_rfl
theorem k12 : (Rows.fnExactCodeReachedRow.recurses == Try.prog.recurses 7) = true := by kernel_rfl
theorem k13 : (Rows.fnExactCodeReachedRow.named == Try.prog.varsNamed 7) = true := by kernel_rfl
theorem k14 : (Rows.fnExactCodeReachedRow.maps == (Try.f7.params.toList ++ Rows.fnExactCodeReachedSpec.plain.varTypes Try.prog).any (Try.prog.mapsRec ·)) = true := by kernel_rfl
theorem k15 : (Rows.fnExactCodeReachedRow.ifaces == (Try.f7.params.toList ++ Rows.fnExactCodeReachedSpec.plain.varTypes Try.prog).any (Try.prog.ifacesRec ·)) = true := by kernel_rfl
theorem k16 : (Rows.fnExactCodeReachedRow.mapsOut == Try.prog.mapsAmong Try.f7.resultTypes.toList) = true := by kernel_rfl
theorem k17 : (Rows.fnExactCodeReachedRow.loops == (Try.f7.params.toList ++ Rows.fnExactCodeReachedSpec.plain.varTypes Try.prog).any (Try.prog.loopsFrom ·)) = true := by kernel_rfl
theorem k18 : (Rows.fnExactCodeReachedRow.wideKeys == (Try.f7.params.toList ++ Rows.fnExactCodeReachedSpec.plain.varTypes Try.prog ++ Try.f7.resultTypes.toList).any (Try.prog.wideKeysFrom ·)) = true := by kernel_rfl
theorem k19 : Rows.fnExactCodeReachedSpec.vars.all (Try.prog.varReadable ·) = true := by kernel_rfl
theorem k20 : Try.f7.resultTypes.all (fun t => Try.prog.readableRec t && decide (t < Try.prog.types.size)) = true := by kernel_rfl
theorem k21 : (Rows.fnExactCodeReachedRow.ifacesOut == Try.f7.resultTypes.toList.any (Try.prog.ifacesRec ·)) = true := by kernel_rfl
theorem k22 : (Rows.fnExactCodeReachedRow.loopsOut == Try.f7.resultTypes.toList.any (Try.prog.loopsFrom ·)) = true := by kernel_rfl
theorem k23 : (Rows.fnExactCodeReachedRow.plainKeys == Try.prog.plainKeys) = true := by kernel_rfl
theorem k24 : Rows.fnExactCodeReachedRow.shortTexts.isNone = true := by kernel_rfl
theorem k29 : (Rows.fnExactCodeReachedRow.kinds == (if Rows.fnExactCodeReachedRow.domain.isEmpty then [] else Try.f7.params.toList.map fun t => match Try.prog.underlying t with | some (.int k) => some k | _ => none)) = true := by kernel_rfl
theorem k30 : (Rows.fnExactCodeReachedRow.pinned == Rows.fnExactCodeReachedRow.pinnedBy) = true := by kernel_rfl
theorem k31 : (Rows.fnExactCodeReachedRow.veiled == (Try.f7.params.toList ++ Rows.fnExactCodeReachedSpec.plain.varTypes Try.prog ++ Try.f7.resultTypes.toList).any (Try.prog.veiledRec ·)) = true := by kernel_rfl
theorem k32 : Rows.fnExactCodeReachedRow.veiledFits Try.prog Try.f7.params.toList (Try.f7.params.toList ++ Rows.fnExactCodeReachedSpec.plain.varTypes Try.prog ++ Try.f7.resultTypes.toList) = true := by kernel_rfl
theorem closed : joinedFacts Try.pinned.checked.prog 7 Try.f7 Rows.fnExactCodeReachedSpec Rows.fnExactCodeReachedRow = true := (andT (andT (andT (andT (andT (andT (andT (andT (andT (andT (andT (andT (andT (andT (andT (andT (andT (andT (andT (andT (andT (andT (andT (andT (andT (andT (andT (andT (andT (andT (andT k1 Try.laidOutB) Try.mapsRowed) k4) k5) k6) Try.noStops) k8) Try.noStopKnobs) k10) k11) k12) k13) k14) k15) k16) k17) k18) k19) k20) k21) k22) k23) k24) Try.stopsHeard) Try.mayEnter) Try.lifted) Try.made) k29) k30) k31) k32)

theorem named : Try.pinned.checked.prog.funcNamed Rows.fnExactCodeReachedRow.func = some 7 := by kernel_rfl
theorem inst : Func.isInstance Try.pinned.checked.prog Try.f7 Rows.fnExactCodeReachedRow.origin Rows.fnExactCodeReachedRow.targs := of_decide_eq_true (by kernel_rfl)
theorem wrap : Func.isWrapper Try.pinned.checked.prog Try.f7 Rows.fnExactCodeReachedRow.wrapper Rows.fnExactCodeReachedRow.mainSum := by unfold Func.isWrapper; first | (rw [if_pos (by decide +kernel)]; kernel_rfl) | (rw [if_neg (by decide +kernel)]; exact ⟨rfl, rfl⟩)
theorem over : Rows.fnExactCodeReachedRow.holds Try.pinned (OpenSpec.ofChange Rows.fnExactCodeReachedSpec) :=
  OpenClaim.holds_of_wide 7 Try.f7 rfl rfl rfl rfl rfl rfl rfl ⟨rfl, rfl, rfl, rfl, rfl⟩ rfl rfl rfl rfl rfl named Try.func7 closed inst wrap
    (fun os started H enc _ => lifted os started H enc)
end Go.Proofs.Ytnhdachenckceaa.fnExactCodeReached
namespace Go.Proofs.Ytnhdachenckceaa
/-- The given statement. -/
theorem fnExactCodeReached_holds : Rows.FnExactCodeReachedSaid := fnExactCodeReached.over
end Go.Proofs.Ytnhdachenckceaa
