/- For every input the law FnExactTraceRows returns true, and its arguments read afterwards as they read before: the statement's frame round the contract. -/
import Derived.Test.YtgpfebpjiddjjaaLExactTraceRows
import Derived.Test.YtgpfebpjiddjjaaFrame
import Derived.Test.YtgpfebpjiddjjaaFrameM
namespace Go.Proofs.Ytgpfebpjiddjjaa.fnExactTraceRows
open Go.ChangeShapes Go.WideShapes Go.ChangeAt Go.RowKit Go.Kt
set_option linter.unusedVariables false


set_option maxRecDepth 100000 in
theorem lifted (os : Os) (started : os.Started) (H : Type) (enc : TypeId × Value → H) :
    ReturnsInHanded {} Try.checked os 4 .any (Rows.fnExactTraceRowsSpec.pre6 enc Try.prog Try.f4 Rows.fnExactTraceRowsRow.domain false) (Rows.fnExactTraceRowsSpec.post enc Try.prog Try.f4 false true false false) := by
  refine returnsInHanded_of_change (C := Try.checked) Try.ownK started (by kernel_rfl) Try.func4
    (ChangeSpec.witness6 (enc := enc) (C := Try.checked) false ⟨#[], #[.agg #[.int .i64 0, .int .i64 0, .int .i64 0, .slice none 0 0], .slice none 0 0], []⟩ 8 (by kernel_rfl) (by kernel_rfl) (by kernel_rfl) (by kernel_rfl)) ?_
  intro W base args ds gs before hval0 hW hcnd _
  have hval : ∀ (j : Nat) t v, Try.f4.params[j]? = some t → args[j]? = some v → Value.okWide Try.prog W .any base t v := hval0
  have hW' := hW
  obtain ⟨p, q, hA0, hV, rfl, hfz, hnd⟩ := hW
  have hA : DataW.TrodAll enc Try.prog W 0 (fun _ => true) true Try.f4.params.toList args.toList ds p := hA0
  rw [Try.params4] at hA hval
  obtain ⟨v0, vs0, d0, ds0, p0, q0, hargs, rfl, rfl, h0, r0⟩ := trodAll_cons hA
  obtain ⟨v1, vs1, d1, ds1, p1, q1, rfl, rfl, rfl, h1, r1⟩ := trodAll_cons r0
  obtain ⟨rfl, rfl, rfl⟩ := trodAll_nil r1
  obtain rfl : args = #[v0, v1] := by cases args; simp_all
  obtain ⟨rfl, rfl⟩ := trodVars_none hV
  have k0 := h0
  have lt0 : ∀ x ∈ p0, x.block < W.heap.size := by obtain ⟨m, hm⟩ := k0; exact DataW.trod_lt m _ _ _ hm
  obtain ⟨st0, pp0, qq0, a0, cap0, ll0, rfl, w0, m0⟩ := open_model (hval 0 24 v0 rfl rfl) h0
  obtain ⟨a1, len1, cap1, rfl⟩ := okWide_slice Try.underlying25 (hval 1 25 v1 rfl rfl)
  have k1 := h1
  have lt1 : ∀ x ∈ p1, x.block < W.heap.size := by obtain ⟨m, hm⟩ := k1; exact DataW.trod_lt m _ _ _ hm
  obtain ⟨l1, rfl, w1, m1⟩ : ∃ l, len1 = l.length ∧ IntsAt W a1 l ∧ len1 ≤ 9223372036854775807 := by
    obtain ⟨fuel, hf⟩ := h1
    rcases open_ints Try.underlying25 Try.underlying3 (by kernel_rfl) hf with ⟨hcs, _⟩ | ⟨x, l, c, zs, hcs, _, hl, hm, hz, _, hcell, hwz⟩
    · simp [Value.cells] at hcs
      obtain ⟨rfl, rfl, rfl⟩ := hcs
      exact ⟨[], rfl, intsAt_none _, by omega⟩
    · simp [Value.cells] at hcs
      obtain ⟨rfl, rfl, rfl⟩ := hcs
      exact intsAt_of_cells (by simpa using hz) hl hm hcell hwz
  clear hA0 hval0
  refine (fnExactTraceRows_c st0 pp0 qq0 a0 cap0 ll0 a1 cap1 l1 W w0 m0.1 m0.2 w1 m1).mono fun e W' ⟨he, bel⟩ => ?_
  subst he
  exact ⟨_, rfl, _, _, _, [], _, [], hW', trodAll_mk1 (shut_bool Try.underlying4 _), (trodAll_cons_mk (Below.trod Try.laidOutB (by kernel_rfl) (of_decide_eq_true (by kernel_rfl)) k0 bel lt0) (trodAll_cons_mk (Below.trod Try.laidOutB (by kernel_rfl) (of_decide_eq_true (by kernel_rfl)) k1 bel lt1) trodAll_mk0)), rfl, bel.frame _, fun h => by cases h⟩
theorem k1 : Rows.fnExactTraceRowsRow.wf (OpenSpec.ofChange Rows.fnExactTraceRowsSpec) = true := by kernel_rfl
theorem k4 : Try.f4.params.all (Try.prog.readableRec ·) = true := by kernel_rfl
theorem k5 : namedTie Try.prog Rows.fnExactTraceRowsRow.named Rows.fnExactTraceRowsSpec.vars = true := by kernel_rfl
theorem k6 : (Rows.fnExactTraceRowsRow.stops == []) = true := by kernel_rfl
theorem k8 : (Rows.fnExactTraceRowsRow.knobs == []) = true := by kernel_rfl
theorem k10 : (Rows.fnExactTraceRowsRow.inPlace == Try.prog.inPlace 4) = true := by kernel_rfl
theorem k11 : (Rows.fnExactTraceRowsRow.unfollowed == Try.prog.unfollowed 4) = true := by kernel_rfl
theorem k12 : (Rows.fnExactTraceRowsRow.recurses == Try.prog.recurses 4) = true := by kernel_rfl
theorem k13 : (Rows.fnExactTraceRowsRow.named == Try.prog.varsNamed 4) = true := by kernel_rfl
theorem k14 : (Rows.fnExactTraceRowsRow.maps == (Try.f4.params.toList ++ Rows.fnExactTraceRowsSpec.plain.varTypes Try.prog).any (Try.prog.mapsRec ·)) = true := by kernel_rfl
theorem k15 : (Rows.fnExactTraceRowsRow.ifaces == (Try.f4.params.toList ++ Rows.fnExactTraceRowsSpec.plain.varTypes Try.prog).any (Try.prog.ifacesRec ·)) = true := by kernel_rfl
theorem k16 : (Rows.fnExactTraceRowsRow.mapsOut == Try.prog.mapsAmong Try.f4.resultTypes.toList) = true := by kernel_rfl
theorem k17 : (Rows.fnExactTraceRowsRow.loops == (Try.f4.params.toList ++ Rows.fnExactTraceRowsSpec.plain.varTypes Try.prog).any (Try.prog.loopsFrom ·)) = true := by kernel_rfl
theorem k18 : (Rows.fnExactTraceRowsRow.wideKeys == (Try.f4.params.toList ++ Rows.fnExactTraceRowsSpec.plain.varTypes Try.prog ++ Try.f4.resultTypes.toList).any (Try.prog.wideKeysFrom ·)) = true := by kernel_rfl
theorem k19 : Rows.fnExactTraceRowsSpec.vars.all (Try.prog.varReadable ·) = true := by kernel_rfl
theorem k20 : Try.f4.resultTypes.all (fun t => Try.prog.readableRec t && decide (t < Try.prog.types.size)) = true := by kernel_rfl
theorem k21 : (Rows.fnExactTraceRowsRow.ifacesOut == Try.f4.resultTypes.toList.any (Try.prog.ifacesRec ·)) = true := by kernel_rfl
theorem k22 : (Rows.fnExactTraceRowsRow.loopsOut == Try.f4.resultTypes.toList.any (Try.prog.loopsFrom ·)) = true := by kernel_rfl
theorem k23 : (Rows.fnExactTraceRowsRow.plainKeys == Try.prog.plainKeys) = true := by kernel_rfl
theorem k24 : Rows.fnExactTraceRowsRow.shortTexts.isNone = true := by kernel_rfl
theorem k29 : (Rows.fnExactTraceRowsRow.kinds == (if Rows.fnExactTraceRowsRow.domain.isEmpty then [] else Try.f4.params.toList.map fun t => match Try.prog.underlying t with | some (.int k) => some k | _ => none)) = true := by kernel_rfl
theorem k30 : (Rows.fnExactTraceRowsRow.pinned == Rows.fnExactTraceRowsRow.pinnedBy) = true := by kernel_rfl
theorem k31 : (Rows.fnExactTraceRowsRow.veiled == (Try.f4.params.toList ++ Rows.fnExactTraceRowsSpec.plain.varTypes Try.prog ++ Try.f4.resultTypes.toList).any (Try.prog.veiledRec ·)) = true := by kernel_rfl
theorem k32 : Rows.fnExactTraceRowsRow.veiledFits Try.prog Try.f4.params.toList (Try.f4.params.toList ++ Rows.fnExactTraceRowsSpec.plain.varTypes Try.prog ++ Try.f4.resultTypes.toList) = true := by kernel_rfl
theorem closed : joinedFacts Try.pinned.checked.prog 4 Try.f4 Rows.fnExactTraceRowsSpec Rows.fnExactTraceRowsRow = true := (andT (andT (andT (andT (andT (andT (andT (andT (andT (andT (andT (andT (andT (andT (andT (andT (andT (andT (andT (andT (andT (andT (andT (andT (andT (andT (andT (andT (andT (andT (andT k1 Try.laidOutB) Try.mapsRowed) k4) k5) k6) Try.noStops) k8) Try.noStopKnobs) k10) k11) k12) k13) k14) k15) k16) k17) k18) k19) k20) k21) k22) k23) k24) Try.stopsHeard) Try.mayEnter) Try.lifted) Try.made) k29) k30) k31) k32)

theorem named : Try.pinned.checked.prog.funcNamed Rows.fnExactTraceRowsRow.func = some 4 := by kernel_rfl
theorem inst : Func.isInstance Try.pinned.checked.prog Try.f4 Rows.fnExactTraceRowsRow.origin Rows.fnExactTraceRowsRow.targs := of_decide_eq_true (by kernel_rfl)
theorem wrap : Func.isWrapper Try.pinned.checked.prog Try.f4 Rows.fnExactTraceRowsRow.wrapper Rows.fnExactTraceRowsRow.mainSum := by unfold Func.isWrapper; first | (rw [if_pos (by decide +kernel)]; kernel_rfl) | (rw [if_neg (by decide +kernel)]; exact ⟨rfl, rfl⟩)
theorem over : Rows.fnExactTraceRowsRow.holds Try.pinned (OpenSpec.ofChange Rows.fnExactTraceRowsSpec) :=
  OpenClaim.holds_of_wide 4 Try.f4 rfl rfl rfl rfl rfl rfl rfl ⟨rfl, rfl, rfl, rfl, rfl⟩ rfl rfl rfl rfl rfl named Try.func4 closed inst wrap
    (fun os started H enc _ => lifted os started H enc)
end Go.Proofs.Ytgpfebpjiddjjaa.fnExactTraceRows
namespace Go.Proofs.Ytgpfebpjiddjjaa
/-- The given statement. -/
theorem fnExactTraceRows_holds : Rows.FnExactTraceRowsSaid := fnExactTraceRows.over
end Go.Proofs.Ytgpfebpjiddjjaa
