/- For every input the law FnExactModelBack returns true, and its arguments read afterwards as they read before: the statement's frame round the contract. -/
import Derived.Test.YtfaeiihgjoognaaLExactModelBack
import Derived.Test.YtfaeiihgjoognaaFrame
import Derived.Test.YtfaeiihgjoognaaFrameM
namespace Go.Proofs.Ytfaeiihgjoognaa.fnExactModelBack
open Go.ChangeShapes Go.WideShapes Go.ChangeAt Go.RowKit Go.Kt
set_option linter.unusedVariables false


set_option maxRecDepth 100000 in
theorem lifted (os : Os) (started : os.Started) (H : Type) (enc : TypeId × Value → H) :
    ReturnsInHanded {} Try.checked os 21 .any (Rows.fnExactModelBackSpec.pre6 enc Try.prog Try.f21 Rows.fnExactModelBackRow.domain false) (Rows.fnExactModelBackSpec.post enc Try.prog Try.f21 false true false false) := by
  refine returnsInHanded_of_change (C := Try.checked) Try.ownK started (by kernel_rfl) Try.func21
    (ChangeSpec.witness6 (enc := enc) (C := Try.checked) false ⟨#[], #[.agg #[.int .i64 0, .int .i64 0, .int .i64 0, .slice none 0 0]], []⟩ 8 (by kernel_rfl) (by kernel_rfl) (by kernel_rfl) (by kernel_rfl)) ?_
  intro W base args ds gs before hval0 hW hcnd _
  have hval : ∀ (j : Nat) t v, Try.f21.params[j]? = some t → args[j]? = some v → Value.okWide Try.prog W .any base t v := hval0
  have hW' := hW
  obtain ⟨p, q, hA0, hV, rfl, hfz, hnd⟩ := hW
  have hA : DataW.TrodAll enc Try.prog W 0 (fun _ => true) true Try.f21.params.toList args.toList ds p := hA0
  rw [Try.params21] at hA hval
  obtain ⟨v0, vs0, d0, ds0, p0, q0, hargs, rfl, rfl, h0, r0⟩ := trodAll_cons hA
  obtain ⟨rfl, rfl, rfl⟩ := trodAll_nil r0
  obtain rfl : args = #[v0] := by cases args; simp_all
  obtain ⟨rfl, rfl⟩ := trodVars_none hV
  have k0 := h0
  have lt0 : ∀ x ∈ p0, x.block < W.heap.size := by obtain ⟨m, hm⟩ := k0; exact DataW.trod_lt m _ _ _ hm
  obtain ⟨st0, pp0, qq0, a0, cap0, ll0, rfl, w0, m0⟩ := open_model (hval 0 40 v0 rfl rfl) h0
  clear hA0 hval0
  refine (fnExactModelBack_c st0 pp0 qq0 a0 cap0 ll0 W w0 m0.1 m0.2).mono fun e W' ⟨he, bel⟩ => ?_
  subst he
  exact ⟨_, rfl, _, _, _, [], _, [], hW', trodAll_mk1 (shut_bool Try.underlying4 _), (trodAll_cons_mk (Below.trod Try.laidOutB (by kernel_rfl) (of_decide_eq_true (by kernel_rfl)) k0 bel lt0) trodAll_mk0), rfl, bel.frame _, fun h => by cases h⟩
theorem k1 : Rows.fnExactModelBackRow.wf (OpenSpec.ofChange Rows.fnExactModelBackSpec) = true := by kernel_rfl
theorem k4 : Try.f21.params.all (Try.prog.readableRec ·) = true := by kernel_rfl
theorem k5 : namedTie Try.prog Rows.fnExactModelBackRow.named Rows.fnExactModelBackSpec.vars = true := by kernel_rfl
theorem k6 : (Rows.fnExactModelBackRow.stops == []) = true := by kernel_rfl
theorem k8 : (Rows.fnExactModelBackRow.knobs == []) = true := by kernel_rfl
theorem k10 : (Rows.fnExactModelBackRow.inPlace == Try.prog.inPlace 21) = true := by kernel_rfl
theorem k11 : (Rows.fnExactModelBackRow.unfollowed == Try.prog.unfollowed 21) = true := by kernel_rfl
theorem k12 : (Rows.fnExactModelBackRow.recurses == Try.prog.recurses 21) = true := by kernel_rfl
theorem k13 : (Rows.fnExactModelBackRow.named == Try.prog.varsNamed 21) = true := by kernel_rfl
theorem k14 : (Rows.fnExactModelBackRow.maps == (Try.f21.params.toList ++ Rows.fnExactModelBackSpec.plain.varTypes Try.prog).any (Try.prog.mapsRec ·)) = true := by kernel_rfl
theorem k15 : (Rows.fnExactModelBackRow.ifaces == (Try.f21.params.toList ++ Rows.fnExactModelBackSpec.plain.varTypes Try.prog).any (Try.prog.ifacesRec ·)) = true := by kernel_rfl
theorem k16 : (Rows.fnExactModelBackRow.mapsOut == Try.prog.mapsAmong Try.f21.resultTypes.toList) = true := by kernel_rfl
theorem k17 : (Rows.fnExactModelBackRow.loops == (Try.f21.params.toList ++ Rows.fnExactModelBackSpec.plain.varTypes Try.prog).any (Try.prog.loopsFrom ·)) = true := by kernel_rfl
theorem k18 : (Rows.fnExactModelBackRow.wideKeys == (Try.f21.params.toList ++ Rows.fnExactModelBackSpec.plain.varTypes Try.prog ++ Try.f21.resultTypes.toList).any (Try.prog.wideKeysFrom ·)) = true := by kernel_rfl
theorem k19 : Rows.fnExactModelBackSpec.vars.all (Try.prog.varReadable ·) = true := by kernel_rfl
theorem k20 : Try.f21.resultTypes.all (fun t => Try.prog.readableRec t && decide (t < Try.prog.types.size)) = true := by kernel_rfl
theorem k21 : (Rows.fnExactModelBackRow.ifacesOut == Try.f21.resultTypes.toList.any (Try.prog.ifacesRec ·)) = true := by kernel_rfl
theorem k22 : (Rows.fnExactModelBackRow.loopsOut == Try.f21.resultTypes.toList.any (Try.prog.loopsFrom ·)) = true := by kernel_rfl
theorem k23 : (Rows.fnExactModelBackRow.plainKeys == Try.prog.plainKeys) = true := by kernel_rfl
theorem k24 : Rows.fnExactModelBackRow.shortTexts.isNone = true := by kernel_rfl
theorem k29 : (Rows.fnExactModelBackRow.kinds == (if Rows.fnExactModelBackRow.domain.isEmpty then [] else Try.f21.params.toList.map fun t => match Try.prog.underlying t with | some (.int k) => some k | _ => none)) = true := by kernel_rfl
theorem k30 : (Rows.fnExactModelBackRow.pinned == Rows.fnExactModelBackRow.pinnedBy) = true := by kernel_rfl
theorem k31 : (Rows.fnExactModelBackRow.veiled == (Try.f21.params.toList ++ Rows.fnExactModelBackSpec.plain.varTypes Try.prog ++ Try.f21.resultTypes.toList).any (Try.prog.veiledRec ·)) = true := by kernel_rfl
theorem k32 : Rows.fnExactModelBackRow.veiledFits Try.prog Try.f21.params.toList (Try.f21.params.toList ++ Rows.fnExactModelBackSpec.plain.varTypes Try.prog ++ Try.f21.resultTypes.toList) = true := by kernel_rfl
theorem closed : joinedFacts Try.pinned.checked.prog 21 Try.f21 Rows.fnExactModelBackSpec Rows.fnExactModelBackRow = true := (andT (andT (andT (andT (andT (andT (andT (andT (andT (andT (andT (andT (andT (andT (andT (andT (andT (andT (andT (andT (andT (andT (andT (andT (andT (andT (andT (andT (andT (andT (andT k1 Try.laidOutB) Try.mapsRowed) k4) k5) k6) Try.noStops) k8) Try.noStopKnobs) k10) k11) k12) k13) k14) k15) k16) k17) k18) k19) k20) k21) k22) k23) k24) Try.stopsHeard) Try.mayEnter) Try.lifted) Try.made) k29) k30) k31) k32)

theorem named : Try.pinned.checked.prog.funcNamed Rows.fnExactModelBackRow.func = some 21 := by kernel_rfl
theorem inst : Func.isInstance Try.pinned.checked.prog Try.f21 Rows.fnExactModelBackRow.origin Rows.fnExactModelBackRow.targs := of_decide_eq_true (by kernel_rfl)
theorem wrap : Func.isWrapper Try.pinned.checked.prog Try.f21 Rows.fnExactModelBackRow.wrapper Rows.fnExactModelBackRow.mainSum := by unfold Func.isWrapper; first | (rw [if_pos (by decide +kernel)]; kernel_rfl) | (rw [if_neg (by decide +kernel)]; exact ⟨rfl, rfl⟩)
theorem over : Rows.fnExactModelBackRow.holds Try.pinned (OpenSpec.ofChange Rows.fnExactModelBackSpec) :=
  OpenClaim.holds_of_wide 21 Try.f21 rfl rfl rfl rfl rfl rfl rfl ⟨rfl, rfl, rfl, rfl, rfl⟩ rfl rfl rfl rfl rfl named Try.func21 closed inst wrap
    (fun os started H enc _ => lifted os started H enc)
end Go.Proofs.Ytfaeiihgjoognaa.fnExactModelBack
namespace Go.Proofs.Ytfaeiihgjoognaa
/-- The given statement. -/
theorem fnExactModelBack_holds : Rows.FnExactModelBackSaid := fnExactModelBack.over
end Go.Proofs.Ytfaeiihgjoognaa
