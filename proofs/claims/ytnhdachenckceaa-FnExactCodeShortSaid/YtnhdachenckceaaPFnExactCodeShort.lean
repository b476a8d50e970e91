/- For every input the law FnExactCodeShort returns true, and its arguments read afterwards as they read before: the statement's frame round the contract. -/
import Derived.Test.YtnhdachenckceaaLExactCodeShort
import Derived.Test.YtnhdachenckceaaFrame
import Derived.Test.YtnhdachenckceaaFrameC
namespace Go.Proofs.Ytnhdachenckceaa.fnExactCodeShort
open Go.ChangeShapes Go.WideShapes Go.ChangeAt Go.RowKit Go.Kt
set_option linter.unusedVariables false


set_option maxRecDepth 100000 in
theorem lifted (os : Os) (started : os.Started) (H : Type) (enc : TypeId × Value → H) :
    ReturnsInHanded {} Try.checked os 12 .any (Rows.fnExactCodeShortSpec.pre6 enc Try.prog Try.f12 Rows.fnExactCodeShortRow.domain false) (Rows.fnExactCodeShortSpec.post enc Try.prog Try.f12 false true false false) := by
  refine returnsInHanded_of_change (C := Try.checked) Try.ownK started (by kernel_rfl) Try.func12
    (ChangeSpec.witness6 (enc := enc) (C := Try.checked) false ⟨#[], #[.slice none 0 0], []⟩ 8 (by kernel_rfl) (by kernel_rfl) (by kernel_rfl) (by kernel_rfl)) ?_
  intro W base args ds gs before hval0 hW hcnd _
  have hval : ∀ (j : Nat) t v, Try.f12.params[j]? = some t → args[j]? = some v → Value.okWide Try.prog W .any base t v := hval0
  have hW' := hW
  obtain ⟨p, q, hA0, hV, rfl, hfz, hnd⟩ := hW
  have hA : DataW.TrodAll enc Try.prog W 0 (fun _ => true) true Try.f12.params.toList args.toList ds p := hA0
  rw [Try.params12] at hA hval
  obtain ⟨v0, vs0, d0, ds0, p0, q0, hargs, rfl, rfl, h0, r0⟩ := trodAll_cons hA
  obtain ⟨rfl, rfl, rfl⟩ := trodAll_nil r0
  obtain rfl : args = #[v0] := by cases args; simp_all
  obtain ⟨rfl, rfl⟩ := trodVars_none hV
  have k0 := h0
  have lt0 : ∀ x ∈ p0, x.block < W.heap.size := by obtain ⟨m, hm⟩ := k0; exact DataW.trod_lt m _ _ _ hm
  obtain ⟨a0, n0, cap0, L0, rfl, w0, m0⟩ := open_inss (hval 0 26 v0 rfl rfl) h0
  clear hA0 hval0
  refine (fnExactCodeShort_c a0 n0 cap0 L0 W w0 m0).mono fun e W' ⟨he, bel⟩ => ?_
  subst he
  exact ⟨_, rfl, _, _, _, [], _, [], hW', trodAll_mk1 (shut_bool Try.underlying4 _), (trodAll_cons_mk (Below.trod Try.laidOutB (by kernel_rfl) (of_decide_eq_true (by kernel_rfl)) k0 bel lt0) trodAll_mk0), rfl, bel.frame _, fun h => by cases h⟩
theorem k1 : Rows.fnExactCodeShortRow.wf (OpenSpec.ofChange Rows.fnExactCodeShortSpec) = true := by kernel_rfl
theorem k4 : Try.f12.params.all (Try.prog.readableRec ·) = true := by kernel_rfl
theorem k5 : namedTie Try.prog Rows.fnExactCodeShortRow.named Rows.fnExactCodeShortSpec.vars = true := by kernel_rfl
theorem k6 : (Rows.fnExactCodeShortRow.stops == []) = true := by kernel_rfl
theorem k8 : (Rows.fnExactCodeShortRow.knobs == []) = true := by kernel_rfl
theorem k10 : (Rows.fnExactCodeShortRow.inPlace == Try.prog.inPlace 12) = true := by kernel_rfl
theorem k11 : (Rows.fnExactCodeShortRow.unfollowed == Try.prog.unfollowed 12) = true := by kernel_rfl
theorem k12 : (Rows.fnExactCodeShortRow.recurses == Try.prog.recurses 12) = true := by kernel_rfl
theorem k13 : (Rows.fnExactCodeShortRow.named == Try.prog.varsNamed 12) = true := by kernel_rfl
theorem k14 : (Rows.fnExactCodeShortRow.maps == (Try.f12.params.toList ++ Rows.fnExactCodeShortSpec.plain.varTypes Try.prog).any (Try.prog.mapsRec ·)) = true := by kernel_rfl
theorem k15 : (Rows.fnExactCodeShortRow.ifaces == (Try.f12.params.toList ++ Rows.fnExactCodeShortSpec.plain.varTypes Try.prog).any (Try.prog.ifacesRec ·)) = true := by kernel_rfl
theorem k16 : (Rows.fnExactCodeShortRow.mapsOut == Try.prog.mapsAmong Try.f12.resultTypes.toList) = true := by kernel_rfl
theorem k17 : (Rows.fnExactCodeShortRow.loops == (Try.f12.params.toList ++ Rows.fnExactCodeShortSpec.plain.varTypes Try.prog).any (Try.prog.loopsFrom ·)) = true := by kernel_rfl
theorem k18 : (Rows.fnExactCodeShortRow.wideKeys == (Try.f12.params.toList ++ Rows.fnExactCodeShortSpec.plain.varTypes Try.prog ++ Try.f12.resultTypes.toList).any (Try.prog.wideKeysFrom ·)) = true := by kernel_rfl
theorem k19 : Rows.fnExactCodeShortSpec.vars.all (Try.prog.varReadable ·) = true := by kernel_rfl
theorem k20 : Try.f12.resultTypes.all (fun t => Try.prog.readableRec t && decide (t < Try.prog.types.size)) = true := by kernel_rfl
theorem k21 : (Rows.fnExactCodeShortRow.ifacesOut == Try.f12.resultTypes.toList.any (Try.prog.ifacesRec ·)) = true := by kernel_rfl
theorem k22 : (Rows.fnExactCodeShortRow.loopsOut == Try.f12.resultTypes.toList.any (Try.prog.loopsFrom ·)) = true := by kernel_rfl
theorem k23 : (Rows.fnExactCodeShortRow.plainKeys == Try.prog.plainKeys) = true := by kernel_rfl
theorem k24 : Rows.fnExactCodeShortRow.shortTexts.isNone = true := by kernel_rfl
theorem k29 : (Rows.fnExactCodeShortRow.kinds == (if Rows.fnExactCodeShortRow.domain.isEmpty then [] else Try.f12.params.toList.map fun t => match Try.prog.underlying t with | some (.int k) => some k | _ => none)) = true := by kernel_rfl
theorem k30 : (Rows.fnExactCodeShortRow.pinned == Rows.fnExactCodeShortRow.pinnedBy) = true := by kernel_rfl
theorem k31 : (Rows.fnExactCodeShortRow.veiled == (Try.f12.params.toList ++ Rows.fnExactCodeShortSpec.plain.varTypes Try.prog ++ Try.f12.resultTypes.toList).any (Try.prog.veiledRec ·)) = true := by kernel_rfl
theorem k32 : Rows.fnExactCodeShortRow.veiledFits Try.prog Try.f12.params.toList (Try.f12.params.toList ++ Rows.fnExactCodeShortSpec.plain.varTypes Try.prog ++ Try.f12.resultTypes.toList) = true := by kernel_rfl
theorem closed : joinedFacts Try.pinned.checked.prog 12 Try.f12 Rows.fnExactCodeShortSpec Rows.fnExactCodeShortRow = true := (andT (andT (andT (andT (andT (andT (andT (andT (andT (andT (andT (andT (andT (andT (andT (andT (andT (andT (andT (andT (andT (andT (andT (andT (andT (andT (andT (andT (andT (andT (andT k1 Try.laidOutB) Try.mapsRowed) k4) k5) k6) Try.noStops) k8) Try.noStopKnobs) k10) k11) k12) k13) k14) k15) k16) k17) k18) k19) k20) k21) k22) k23) k24) Try.stopsHeard) Try.mayEnter) Try.lifted) Try.made) k29) k30) k31) k32)

theorem named : Try.pinned.checked.prog.funcNamed Rows.fnExactCodeShortRow.func = some 12 := by kernel_rfl
theorem inst : Func.isInstance Try.pinned.checked.prog Try.f12 Rows.fnExactCodeShortRow.origin Rows.fnExactCodeShortRow.targs := of_decide_eq_true (by kernel_rfl)
theorem wrap : Func.isWrapper Try.pinned.checked.prog Try.f12 Rows.fnExactCodeShortRow.wrapper Rows.fnExactCodeShortRow.mainSum := by unfold Func.isWrapper; first | (rw [if_pos (by decide +kernel)]; kernel_rfl) | (rw [if_neg (by decide +kernel)]; exact ⟨rfl, rfl⟩)
theorem over : Rows.fnExactCodeShortRow.holds Try.pinned (OpenSpec.ofChange Rows.fnExactCodeShortSpec) :=
  OpenClaim.holds_of_wide 12 Try.f12 rfl rfl rfl rfl rfl rfl rfl ⟨rfl, rfl, rfl, rfl, rfl⟩ rfl rfl rfl rfl rfl named Try.func12 closed inst wrap
    (fun os started H enc _ => lifted os started H enc)
end Go.Proofs.Ytnhdachenckceaa.fnExactCodeShort
namespace Go.Proofs.Ytnhdachenckceaa
/-- The given statement. -/
theorem fnExactCodeShort_holds : Rows.FnExactCodeShortSaid := fnExactCodeShort.over
end Go.Proofs.Ytnhdachenckceaa
