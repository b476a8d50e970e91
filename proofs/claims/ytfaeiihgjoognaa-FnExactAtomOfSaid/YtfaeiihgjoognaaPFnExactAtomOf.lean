/- For every input the law FnExactAtomOf returns true, and its arguments read afterwards as they read before: the statement's frame round the contract. -/
import Derived.Test.YtfaeiihgjoognaaLExactAtomOf
import Derived.Test.YtfaeiihgjoognaaFrame
import Derived.Test.YtfaeiihgjoognaaFrameM
namespace Go.Proofs.Ytfaeiihgjoognaa.fnExactAtomOf
open Go.ChangeShapes Go.WideShapes Go.ChangeAt Go.RowKit Go.Kt
set_option linter.unusedVariables false


set_option maxRecDepth 100000 in
theorem lifted (os : Os) (started : os.Started) (H : Type) (enc : TypeId × Value → H) :
    ReturnsInHanded {} Try.checked os 14 .any (Rows.fnExactAtomOfSpec.pre6 enc Try.prog Try.f14 Rows.fnExactAtomOfRow.domain false) (Rows.fnExactAtomOfSpec.post enc Try.prog Try.f14 false true false false) := by
  refine returnsInHanded_of_change (C := Try.checked) Try.ownK started (by kernel_rfl) Try.func14
    (ChangeSpec.witness6 (enc := enc) (C := Try.checked) false ⟨#[], #[.agg #[.int .i64 0, .int .i64 0, .int .i64 0, .slice none 0 0], .int .i64 0], []⟩ 8 (by kernel_rfl) (by kernel_rfl) (by kernel_rfl) (by kernel_rfl)) ?_
  intro W base args ds gs before hval0 hW hcnd _
  have hval : ∀ (j : Nat) t v, Try.f14.params[j]? = some t → args[j]? = some v → Value.okWide Try.prog W .any base t v := hval0
  have hW' := hW
  obtain ⟨p, q, hA0, hV, rfl, hfz, hnd⟩ := hW
  have hA : DataW.TrodAll enc Try.prog W 0 (fun _ => true) true Try.f14.params.toList args.toList ds p := hA0
  rw [Try.params14] at hA hval
  obtain ⟨v0, vs0, d0, ds0, p0, q0, hargs, rfl, rfl, h0, r0⟩ := trodAll_cons hA
  obtain ⟨v1, vs1, d1, ds1, p1, q1, rfl, rfl, rfl, h1, r1⟩ := trodAll_cons r0
  obtain ⟨rfl, rfl, rfl⟩ := trodAll_nil r1
  obtain rfl : args = #[v0, v1] := by cases args; simp_all
  obtain ⟨rfl, rfl⟩ := trodVars_none hV
  have k0 := h0
  have lt0 : ∀ x ∈ p0, x.block < W.heap.size := by obtain ⟨m, hm⟩ := k0; exact DataW.trod_lt m _ _ _ hm
  obtain ⟨st0, pp0, qq0, a0, cap0, ll0, rfl, w0, m0⟩ := open_model (hval 0 40 v0 rfl rfl) h0
  obtain ⟨a1, rfl, rfl, rfl, w1⟩ := open_int Try.underlying3 (hval 1 3 v1 rfl rfl) h1
  clear hA0 hval0
  refine (fnExactAtomOf_c st0 pp0 qq0 a0 cap0 ll0 a1 W w0 m0.1 m0.2).mono fun e W' ⟨he, bel⟩ => ?_
  subst he
  exact ⟨_, rfl, _, _, _, [], _, [], hW', trodAll_mk1 (shut_bool Try.underlying4 _), (trodAll_cons_mk (Below.trod Try.laidOutB (by kernel_rfl) (of_decide_eq_true (by kernel_rfl)) k0 bel lt0) (trodAll_cons_mk (shut_int Try.underlying3 w1) trodAll_mk0)), rfl, bel.frame _, fun h => by cases h⟩
theorem k1 : Rows.fnExactAtomOfRow.wf (OpenSpec.ofChange Rows.fnExactAtomOfSpec) = true := by kernel_rfl
theorem k4 : Try.f14.params.all (Try.prog.readableRec ·) = true := by kernel_rfl
theorem k5 : namedTie Try.prog Rows.fnExactAtomOfRow.named Rows.fnExactAtomOfSpec.vars = true := by kernel_rfl
theorem k6 : (Rows.fnExactAtomOfRow.stops == []) = true := by kernel_rfl
theorem k8 : (Rows.fnExactAtomOfRow.knobs == []) = true := by kernel_rfl
theorem k10 : (Rows.fnExactAtomOfRow.inPlace == Try.prog.inPlace 14) = true := by kernel_rfl
theorem k11 : (Rows.fnExactAtomOfRow.unfollowed == Try.prog.unfollowed 14) = true := by kernel_rfl
theorem k12 : (Rows.fnExactAtomOfRow.recurses == Try.prog.recurses 14) = true := by kernel_rfl
theorem k13 : (Rows.fnExactAtomOfRow.named == Try.prog.varsNamed 14) = true := by kernel_rfl
theorem k14 : (Rows.fnExactAtomOfRow.maps == (Try.f14.params.toList ++ Rows.fnExactAtomOfSpec.plain.varTypes Try.prog).any (Try.prog.mapsRec ·)) = true := by kernel_rfl
theorem k15 : (Rows.fnExactAtomOfRow.ifaces == (Try.f14.params.toList ++ Rows.fnExactAtomOfSpec.plain.varTypes Try.prog).any (Try.prog.ifacesRec ·)) = true := by kernel_rfl
theorem k16 : (Rows.fnExactAtomOfRow.mapsOut == Try.prog.mapsAmong Try.f14.resultTypes.toList) = true := by kernel_rfl
theorem k17 : (Rows.fnExactAtomOfRow.loops == (Try.f14.params.toList ++ Rows.fnExactAtomOfSpec.plain.varTypes Try.prog).any (Try.prog.loopsFrom ·)) = true := by kernel_rfl
theorem k18 : (Rows.fnExactAtomOfRow.wideKeys == (Try.f14.params.toList ++ Rows.fnExactAtomOfSpec.plain.varTypes Try.prog ++ Try.f14.resultTypes.toList).any (Try.prog.wideKeysFrom ·)) = true := by kernel_rfl
theorem k19 : Rows.fnExactAtomOfSpec.vars.all (Try.prog.varReadable ·) = true := by kernel_rfl
theorem k20 : Try.f14.resultTypes.all (fun t => Try.prog.readableRec t && decide (t < Try.prog.types.size)) = true := by kernel_rfl
theorem k21 : (Rows.fnExactAtomOfRow.ifacesOut == Try.f14.resultTypes.toList.any (Try.prog.ifacesRec ·)) = true := by kernel_rfl
theorem k22 : (Rows.fnExactAtomOfRow.loopsOut == Try.f14.resultTypes.toList.any (Try.prog.loopsFrom ·)) = true := by kernel_rfl
theorem k23 : (Rows.fnExactAtomOfRow.plainKeys == Try.prog.plainKeys) = true := by kernel_rfl
theorem k24 : Rows.fnExactAtomOfRow.shortTexts.isNone = true := by kernel_rfl
theorem k29 : (Rows.fnExactAtomOfRow.kinds == (if Rows.fnExactAtomOfRow.domain.isEmpty then [] else Try.f14.params.toList.map fun t => match Try.prog.underlying t with | some (.int k) => some k | _ => none)) = true := by kernel_rfl
theorem k30 : (Rows.fnExactAtomOfRow.pinned == Rows.fnExactAtomOfRow.pinnedBy) = true := by kernel_rfl
theorem k31 : (Rows.fnExactAtomOfRow.veiled == (Try.f14.params.toList ++ Rows.fnExactAtomOfSpec.plain.varTypes Try.prog ++ Try.f14.resultTypes.toList).any (Try.prog.veiledRec ·)) = true := by kernel_rfl
theorem k32 : Rows.fnExactAtomOfRow.veiledFits Try.prog Try.f14.params.toList (Try.f14.params.toList ++ Rows.fnExactAtomOfSpec.plain.varTypes Try.prog ++ Try.f14.resultTypes.toList) = true := by kernel_rfl
theorem closed : joinedFacts Try.pinned.checked.prog 14 Try.f14 Rows.fnExactAtomOfSpec Rows.fnExactAtomOfRow = true := (andT (andT (andT (andT (andT (andT (andT (andT (andT (andT (andT (andT (andT (andT (andT (andT (andT (andT (andT (andT (andT (andT (andT (andT (andT (andT (andT (andT (andT (andT (andT k1 Try.laidOutB) Try.mapsRowed) k4) k5) k6) Try.noStops) k8) Try.noStopKnobs) k10) k11) k12) k13) k14) k15) k16) k17) k18) k19) k20) k21) k22) k23) k24) Try.stopsHeard) Try.mayEnter) Try.lifted) Try.made) k29) k30) k31) k32)

theorem named : Try.pinned.checked.prog.funcNamed Rows.fnExactAtomOfRow.func = some 14 := by kernel_rfl
theorem inst : Func.isInstance Try.pinned.checked.prog Try.f14 Rows.fnExactAtomOfRow.origin Rows.fnExactAtomOfRow.targs := of_decide_eq_true (by kernel_rfl)
theorem wrap : Func.isWrapper Try.pinned.checked.prog Try.f14 Rows.fnExactAtomOfRow.wrapper Rows.fnExactAtomOfRow.mainSum := by unfold Func.isWrapper; first | (rw [if_pos (by decide +kernel)]; kernel_rfl) | (rw [if_neg (by decide +kernel)]; exact ⟨rfl, rfl⟩)
theorem over : Rows.fnExactAtomOfRow.holds Try.pinned (OpenSpec.ofChange Rows.fnExactAtomOfSpec) :=
  OpenClaim.holds_of_wide 14 Try.f14 rfl rfl rfl rfl rfl rfl rfl ⟨rfl, rfl, rfl, rfl, rfl⟩ rfl rfl rfl rfl rfl named Try.func14 closed inst wrap
    (fun os started H enc _ => lifted os started H enc)
end Go.Proofs.Ytfaeiihgjoognaa.fnExactAtomOf
namespace Go.Proofs.Ytfaeiihgjoognaa
/-- The given statement. -/
theorem fnExactAtomOf_holds : Rows.FnExactAtomOfSaid := fnExactAtomOf.over
end Go.Proofs.Ytfaeiihgjoognaa
